/- Walks: buffers: the reference's checks. -/
import Derived.Test.YtdpnichgdfpmgaaQbW
set_option linter.unusedVariables false
set_option linter.unusedSimpArgs false
namespace Go.Proofs.Ytdpnichgdfpmgaa
open Go.RowKit Go.Rt
attribute [local go_sem] Oper.semAt_some
theorem lcC {α : Type} {n : Nat} {l : List α} (h : l.length = n + 1) : ∃ x t, l = x :: t ∧ t.length = n := by
  cases l with
  | nil => cases h
  | cons x t => exact ⟨x, t, rfl, Nat.succ.inj h⟩
theorem lc39 {α : Type} {l0 : List α} (h0 : l0.length = 39) : ∃ x0 x1 x2 x3 x4 x5 x6 x7 x8 x9 x10 x11 x12 x13 x14 x15 x16 x17 x18 x19 x20 x21 x22 x23 x24 x25 x26 x27 x28 x29 x30 x31 x32 x33 x34 x35 x36 x37 x38, l0 = [x0, x1, x2, x3, x4, x5, x6, x7, x8, x9, x10, x11, x12, x13, x14, x15, x16, x17, x18, x19, x20, x21, x22, x23, x24, x25, x26, x27, x28, x29, x30, x31, x32, x33, x34, x35, x36, x37, x38] := by
  obtain ⟨x0, l1, rfl, h1⟩ := lcC h0
  obtain ⟨x1, l2, rfl, h2⟩ := lcC h1
  obtain ⟨x2, l3, rfl, h3⟩ := lcC h2
  obtain ⟨x3, l4, rfl, h4⟩ := lcC h3
  obtain ⟨x4, l5, rfl, h5⟩ := lcC h4
  obtain ⟨x5, l6, rfl, h6⟩ := lcC h5
  obtain ⟨x6, l7, rfl, h7⟩ := lcC h6
  obtain ⟨x7, l8, rfl, h8⟩ := lcC h7
  obtain ⟨x8, l9, rfl, h9⟩ := lcC h8
  obtain ⟨x9, l10, rfl, h10⟩ := lcC h9
  obtain ⟨x10, l11, rfl, h11⟩ := lcC h10
  obtain ⟨x11, l12, rfl, h12⟩ := lcC h11
  obtain ⟨x12, l13, rfl, h13⟩ := lcC h12
  obtain ⟨x13, l14, rfl, h14⟩ := lcC h13
  obtain ⟨x14, l15, rfl, h15⟩ := lcC h14
  obtain ⟨x15, l16, rfl, h16⟩ := lcC h15
  obtain ⟨x16, l17, rfl, h17⟩ := lcC h16
  obtain ⟨x17, l18, rfl, h18⟩ := lcC h17
  obtain ⟨x18, l19, rfl, h19⟩ := lcC h18
  obtain ⟨x19, l20, rfl, h20⟩ := lcC h19
  obtain ⟨x20, l21, rfl, h21⟩ := lcC h20
  obtain ⟨x21, l22, rfl, h22⟩ := lcC h21
  obtain ⟨x22, l23, rfl, h23⟩ := lcC h22
  obtain ⟨x23, l24, rfl, h24⟩ := lcC h23
  obtain ⟨x24, l25, rfl, h25⟩ := lcC h24
  obtain ⟨x25, l26, rfl, h26⟩ := lcC h25
  obtain ⟨x26, l27, rfl, h27⟩ := lcC h26
  obtain ⟨x27, l28, rfl, h28⟩ := lcC h27
  obtain ⟨x28, l29, rfl, h29⟩ := lcC h28
  obtain ⟨x29, l30, rfl, h30⟩ := lcC h29
  obtain ⟨x30, l31, rfl, h31⟩ := lcC h30
  obtain ⟨x31, l32, rfl, h32⟩ := lcC h31
  obtain ⟨x32, l33, rfl, h33⟩ := lcC h32
  obtain ⟨x33, l34, rfl, h34⟩ := lcC h33
  obtain ⟨x34, l35, rfl, h35⟩ := lcC h34
  obtain ⟨x35, l36, rfl, h36⟩ := lcC h35
  obtain ⟨x36, l37, rfl, h37⟩ := lcC h36
  obtain ⟨x37, l38, rfl, h38⟩ := lcC h37
  obtain ⟨x38, l39, rfl, h39⟩ := lcC h38
  obtain rfl := List.length_eq_zero_iff.1 h39
  exact ⟨x0, x1, x2, x3, x4, x5, x6, x7, x8, x9, x10, x11, x12, x13, x14, x15, x16, x17, x18, x19, x20, x21, x22, x23, x24, x25, x26, x27, x28, x29, x30, x31, x32, x33, x34, x35, x36, x37, x38, rfl⟩
set_option maxHeartbeats 2000000 in
theorem qmay_any (a : Option Addr) (c n : Nat) (L : Nat → Buf) (w : World) (h : BL w w.heap.size a n L) : Calls Try.prog 5 #[.slice a n c] w fun e w' => TellsB e (BufsOk L n) ∧ Below w.heap.size w w' := by
  have hnb := h.nb
  have HL := Lib.hid h
  have HB := Lib.hid (Below.refl w.heap.size w)
  clear h
  go_enter Try.func5, Try.ntmps5
  go_wp2
  go_loopw [3] (fun s3 wr => ∃ k : Nat, s3 = .int .i64 (k : Nat) ∧ k ≤ n ∧ Hid (∀ i, i < k → bufOk (L i) = true) ∧ Hid (Below w.heap.size w wr)) (fun s3 _ => n - (intOf s3).toNat)
  case atStart => exact ⟨0, rfl, Nat.zero_le _, Lib.hid (fun i hi => absurd hi (by omega)), HB⟩
  case round =>
    obtain ⟨k, rfl, hk, HA, HB1⟩ := hrel
    clear HB
    obtain ⟨wo, rfl⟩ : ∃ x : World, x = wr := ⟨_, rfl⟩
    by_cases hlt : k < n
    · skip
      have HL1 := HL.out.below HB1.out (Nat.le_refl _)
      obtain ⟨b, o, rfl, hl, d0, d1, d2, d3⟩ := HL1.four hlt
      obtain ⟨⟨x1, x2, x3, x4⟩, hL⟩ : ∃ z, L k = z := ⟨_, rfl⟩
      rw [hL] at d0 d1 d2 d3
      have hki : (k : Int) < (n : Int) := by omega
      have HLK := Lib.hid hL
      clear HL1 hL
      have hb2 : Below w.heap.size w (wo.alloc (.cells #[.int .i64 x1, .int .i64 x2, .int .i64 x3, .int .i64 x4] 36)) := HB1.out.alloc HB1.out.size _
      have HB2 := Lib.hid hb2
      clear hb2
      by_cases h0 : 0 ≤ x1
      · skip
        by_cases h1 : x1 ≤ x2
        · skip
          by_cases h2 : x2 < 1024
          · skip
            by_cases h3 : 1 ≤ x3
            · skip
              by_cases h4 : x3 ≤ 65536
              · skip
                have hok : bufOk ⟨x1, x2, x3, x4⟩ = true := bufOk_iff.2 ⟨h0, h1, h2, h3, h4⟩
                rw [← HLK.out] at hok
                have HA2 : Hid (∀ i, i < k + 1 → bufOk (L i) = true) := Lib.hid (fun i hi => by
                  by_cases e9 : i = k
                  · rw [e9]; exact hok
                  · exact HA.out i (by omega))
                clear hok
                go_wp2
                go_roundw
                case rel => exact ⟨k + 1, by first | rfl | go_num, by omega, HA2, Lib.hid (HB1.out.alloc HB1.out.size _)⟩
                case measure => (simp only [intOf]; omega)
              · skip
                have hbad : ¬ BufsOk L n := fun hx => by
                  have h9 := bufOk_iff.1 (hx.2 k hlt)
                  rw [HLK.out] at h9
                  simp only at h9
                  omega
                have HBAD := Lib.hid hbad
                clear hbad
                go_wp2
                go_ret
                exact ⟨.no HBAD.out, HB1.out.alloc HB1.out.size _⟩
            · skip
              have hbad : ¬ BufsOk L n := fun hx => by
                have h9 := bufOk_iff.1 (hx.2 k hlt)
                rw [HLK.out] at h9
                simp only at h9
                omega
              have HBAD := Lib.hid hbad
              clear hbad
              go_wp2
              go_ret
              exact ⟨.no HBAD.out, HB1.out.alloc HB1.out.size _⟩
          · skip
            have hbad : ¬ BufsOk L n := fun hx => by
              have h9 := bufOk_iff.1 (hx.2 k hlt)
              rw [HLK.out] at h9
              simp only at h9
              omega
            have HBAD := Lib.hid hbad
            clear hbad
            go_wp2
            go_ret
            exact ⟨.no HBAD.out, HB1.out.alloc HB1.out.size _⟩
        · skip
          have hbad : ¬ BufsOk L n := fun hx => by
            have h9 := bufOk_iff.1 (hx.2 k hlt)
            rw [HLK.out] at h9
            simp only at h9
            omega
          have HBAD := Lib.hid hbad
          clear hbad
          go_wp2
          go_ret
          exact ⟨.no HBAD.out, HB1.out.alloc HB1.out.size _⟩
      · skip
        have hbad : ¬ BufsOk L n := fun hx => by
          have h9 := bufOk_iff.1 (hx.2 k hlt)
          rw [HLK.out] at h9
          simp only at h9
          omega
        have HBAD := Lib.hid hbad
        clear hbad
        go_wp2
        go_ret
        exact ⟨.no HBAD.out, HB1.out.alloc HB1.out.size _⟩
    · obtain rfl : k = n := by omega
      go_wp2
      go_ret
      refine ⟨⟨_, rfl, ?_⟩, HB1.out⟩
      rw [decide_eq_true_eq]
      unfold BufsOk
      constructor
      · intro h; exact ⟨by omega, HA.out⟩
      · intro h; have := h.1; omega
set_option maxHeartbeats 2000000 in
theorem qmeet_any (x1 x2 x3 x4 y1 y2 y3 y4 : Int) (w : World) : Calls Try.prog 12 #[.agg #[.int .i64 x1, .int .i64 x2, .int .i64 x3, .int .i64 x4], .agg #[.int .i64 y1, .int .i64 y2, .int .i64 y3, .int .i64 y4]] w fun e w' => e = .returned (.bool (meets ⟨x1, x2, x3, x4⟩ ⟨y1, y2, y3, y4⟩)) ∧ Below w.heap.size w w' := by
  have hb : Below w.heap.size w ((w.alloc (.cells #[.int .i64 x1, .int .i64 x2, .int .i64 x3, .int .i64 x4] 36)).alloc (.cells #[.int .i64 y1, .int .i64 y2, .int .i64 y3, .int .i64 y4] 36)) := ((Below.refl _ _).alloc (Nat.le_refl _) _).alloc (by simp) _
  have HB := Lib.hid hb
  clear hb
  go_enter Try.func12, Try.ntmps12
  by_cases h0 : x1 ≤ y2
  · by_cases h1 : y1 ≤ x2
    · have hm : meets ⟨x1, x2, x3, x4⟩ ⟨y1, y2, y3, y4⟩ = true := by simp [meets, h0, h1]
      rw [hm]
      clear hm
      go_wp2
      go_ret
      exact ⟨rfl, HB.out⟩
    · have hm : meets ⟨x1, x2, x3, x4⟩ ⟨y1, y2, y3, y4⟩ = false := by simp [meets, h0, h1]
      rw [hm]
      clear hm
      go_wp2
      go_ret
      exact ⟨rfl, HB.out⟩
  · have hm : meets ⟨x1, x2, x3, x4⟩ ⟨y1, y2, y3, y4⟩ = false := by simp [meets, h0]
    rw [hm]
    clear hm
    go_wp2
    go_ret
    exact ⟨rfl, HB.out⟩
/-- n marks that read. -/
def DL (w : World) (hi : Nat) (a : Option Addr) (n : Nat) (D : Nat → Bool) : Prop := ∀ i, i < n → ∃ b o, a = some ⟨b, o, none⟩ ∧ b < hi ∧ w.cell? ⟨b, o + i, none⟩ = some (.bool (D i))
theorem DL.below {w w' : World} {hi B n : Nat} {a : Option Addr} {D : Nat → Bool} (h : DL w hi a n D) (hb : Below B w w') (hB : hi ≤ B) : DL w' hi a n D := fun i hx => by
  obtain ⟨b, o, e, hlt, hc⟩ := h i hx
  exact ⟨b, o, e, hlt, (hb.cell (p := ⟨b, o + i, none⟩) (show b < B by omega)).trans hc⟩
/-- Among those with a mark: does y lie free at p? -/
def FreeD (P : Nat → Buf) (D : Nat → Bool) (n : Nat) (y : Buf) (p : Int) : Prop := ∀ i, i < n → D i = true → meets (P i) y = true → ¬ ovl (P i) y.sz p
set_option maxHeartbeats 2000000 in
theorem qfree_any (a ad : Option Addr) (c cd n : Nat) (P : Nat → Buf) (D : Nat → Bool) (y1 y2 y3 y4 p : Int) (w : World) (h : BL w w.heap.size a n P) (hd : DL w w.heap.size ad n D) (hp : 0 ≤ p ∧ p ≤ 1000000000) (hy : 0 ≤ y3 ∧ y3 ≤ 65536) (hP : ∀ i, i < n → 0 ≤ (P i).sz ∧ (P i).sz ≤ 65536) (hQ : ∀ i, i < n → D i = true → 0 ≤ (P i).pl ∧ (P i).pl ≤ 1000000000) :
    Calls Try.prog 13 #[.slice a n c, .slice ad n cd, .agg #[.int .i64 y1, .int .i64 y2, .int .i64 y3, .int .i64 y4], .int .i64 p] w fun e w' => TellsB e (FreeD P D n ⟨y1, y2, y3, y4⟩ p) ∧ Below w.heap.size w w' := by
  have hnb := h.nb
  have HL := Lib.hid h
  have HD := Lib.hid hd
  have HP := Lib.hid hP
  have HQ := Lib.hid hQ
  have F1 := Lib.hid ((Fr.start (w := w) (I := []) (by simp)).box1 (b := w.heap.size) rfl [.int .i64 y1, .int .i64 y2, .int .i64 y3, .int .i64 y4] 36)
  simp only [List.nil_append] at F1
  clear h hd hP hQ
  go_enter Try.func13, Try.ntmps13
  go_wp2
  obtain ⟨W1, hW1⟩ : ∃ x, (w.alloc (.cells #[.int .i64 y1, .int .i64 y2, .int .i64 y3, .int .i64 y4] 36)) = x := ⟨_, rfl⟩
  rw [hW1] at F1 ⊢
  clear hW1
  go_loopw [9] (fun s9 wr => ∃ k : Nat, s9 = .int .i64 (k : Nat) ∧ k ≤ n ∧ Hid (FreeD P D k ⟨y1, y2, y3, y4⟩ p) ∧ Hid (Fr w.heap.size w wr [(w.heap.size, [.int .i64 y1, .int .i64 y2, .int .i64 y3, .int .i64 y4])] [] [] [])) (fun s9 _ => n - (intOf s9).toNat)
  case atStart => exact ⟨0, rfl, Nat.zero_le _, Lib.hid (fun i hi => absurd hi (by omega)), F1⟩
  case round =>
    obtain ⟨k, rfl, hk, HA, F2⟩ := hrel
    clear F1
    obtain ⟨wo, rfl⟩ : ∃ x : World, x = wr := ⟨_, rfl⟩
    by_cases hlt : k < n
    · skip
      have hki : (k : Int) < (n : Int) := by omega
      have HK := Lib.hid hlt
      obtain ⟨b, o, rfl, hl, _⟩ := HL.out.four hlt
      obtain ⟨bd, od, rfl, hl2, _⟩ := HD.out k hlt
      obtain ⟨⟨z1, z2, z3, z4⟩, hx⟩ : ∃ z, P k = z := ⟨_, rfl⟩
      have hps := HP.out k hlt
      have hqs := HQ.out k hlt
      rw [hx] at hps hqs
      have HX := Lib.hid hx
      obtain ⟨dk, hdk⟩ : ∃ z, D k = z := ⟨_, rfl⟩
      rw [hdk] at hqs
      have HDK := Lib.hid hdk
      have hdef : FreeD P D (k + 1) ⟨y1, y2, y3, y4⟩ p ↔ FreeD P D k ⟨y1, y2, y3, y4⟩ p ∧ (dk = true → meets ⟨z1, z2, z3, z4⟩ ⟨y1, y2, y3, y4⟩ = true → ¬ ovl ⟨z1, z2, z3, z4⟩ y3 p) := by
        unfold FreeD
        constructor
        · intro h
          refine ⟨fun i hi => h i (by omega), fun h1 h2 => ?_⟩
          have := h k (by omega) (by rw [hdk]; exact h1) (by rw [hx]; exact h2)
          rw [hx] at this; exact this
        · rintro ⟨h1, h2⟩ i hi
          by_cases e : i = k
          · rw [e, hdk, hx]; exact h2
          · exact h1 i (by omega)
      have HDEF := Lib.hid hdef
      have HME := Lib.hid (fun W => qmeet_any z1 z2 z3 z4 y1 y2 y3 y4 W)
      obtain ⟨mk, hmk⟩ : ∃ z, meets ⟨z1, z2, z3, z4⟩ ⟨y1, y2, y3, y4⟩ = z := ⟨_, rfl⟩
      rw [hmk] at HME HDEF
      clear hx hdk hdef hmk
      go_upto_region 4 with fail
      cases dk with
      | false =>
        refine wp_region_inv (w := wo) 39 (fun _ _ => True) (fun _ W => Fr w.heap.size w W [(w.heap.size, [.int .i64 y1, .int .i64 y2, .int .i64 y3, .int .i64 y4])] [] [] []) [] [(fun u _ => u = .slice (some ⟨bd, od, none⟩) n cd), (fun u _ => u = .int .i64 (k : Int)), (fun u _ => u = .pointer (some ⟨bd, od + k, none⟩)), (fun u _ => u = .bool false), (fun u _ => u = .bool false), (fun u _ => u = undef), (fun u _ => u = undef), (fun u _ => u = undef), (fun u _ => u = undef), (fun u _ => u = undef), (fun u _ => u = undef), (fun u _ => u = .bool false), (fun u _ => u = .bool false), (fun u _ => u = undef), (fun u _ => u = undef), (fun u _ => u = undef), (fun u _ => u = undef), (fun u _ => u = undef), (fun u _ => u = undef), (fun u _ => u = undef), (fun u _ => u = undef), (fun u _ => u = undef), (fun u _ => u = undef), (fun u _ => u = .bool false), (fun u _ => u = .bool false), (fun u _ => u = undef), (fun u _ => u = undef), (fun u _ => u = undef), (fun u _ => u = undef), (fun u _ => u = undef), (fun u _ => u = undef), (fun u _ => u = undef), (fun u _ => u = undef), (fun u _ => u = undef), (fun u _ => u = undef), (fun u _ => u = undef), (fun u _ => u = undef), (fun u _ => u = undef), (fun u _ => u = .bool false)] [some 16, some 17, some 18, some 19, some 20, some 21, some 22, some 23, some 24, some 25, some 26, some 27, some 28, some 29, some 30, some 31, some 32, some 33, some 34, some 35, some 36, some 37, some 38, some 39, some 40, some 41, some 42, some 43, some 44, some 45, some 46, some 47, some 48, some 49, some 50, some 51, some 52, some 53, some 54] (by kernel_rfl) (by kernel_rfl) rfl (by kernel_rfl) (by kernel_rfl) (by decide) (by decide) (fun _ _ => trivial) trivial F2.out.drew (BorneAll.at (.cons (borne_eq _) (.cons (borne_eq _) (.cons (borne_eq _) (.cons (borne_eq _) (.cons (borne_eq _) (.cons (borne_eq _) (.cons (borne_eq _) (.cons (borne_eq _) (.cons (borne_eq _) (.cons (borne_eq _) (.cons (borne_eq _) (.cons (borne_eq _) (.cons (borne_eq _) (.cons (borne_eq _) (.cons (borne_eq _) (.cons (borne_eq _) (.cons (borne_eq _) (.cons (borne_eq _) (.cons (borne_eq _) (.cons (borne_eq _) (.cons (borne_eq _) (.cons (borne_eq _) (.cons (borne_eq _) (.cons (borne_eq _) (.cons (borne_eq _) (.cons (borne_eq _) (.cons (borne_eq _) (.cons (borne_eq _) (.cons (borne_eq _) (.cons (borne_eq _) (.cons (borne_eq _) (.cons (borne_eq _) (.cons (borne_eq _) (.cons (borne_eq _) (.cons (borne_eq _) (.cons (borne_eq _) (.cons (borne_eq _) (.cons (borne_eq _) (.cons (borne_eq _) .nil)))))))))))))))))))))))))))))))))))))))) (fun vs b hvl hvb => ?_)
        obtain ⟨x0, x1, x2, x3, x4, x5, x6, x7, x8, x9, x10, x11, x12, x13, x14, x15, x16, x17, x18, x19, x20, x21, x22, x23, x24, x25, x26, x27, x28, x29, x30, x31, x32, x33, x34, x35, x36, x37, x38, rfl⟩ : ∃ x0 x1 x2 x3 x4 x5 x6 x7 x8 x9 x10 x11 x12 x13 x14 x15 x16 x17 x18 x19 x20 x21 x22 x23 x24 x25 x26 x27 x28 x29 x30 x31 x32 x33 x34 x35 x36 x37 x38, vs = [x0, x1, x2, x3, x4, x5, x6, x7, x8, x9, x10, x11, x12, x13, x14, x15, x16, x17, x18, x19, x20, x21, x22, x23, x24, x25, x26, x27, x28, x29, x30, x31, x32, x33, x34, x35, x36, x37, x38] := lc39 hvl
        clear hvl
        simp only [putAll, Act.put, List.setIfInBounds_toArray, List.set_cons_zero, List.set_cons_succ] at hvb
        subst hvb
        refine ⟨(.snoc (.snoc (.snoc (.snoc (.snoc (.snoc (.snoc (.snoc (.snoc (.snoc (.snoc (.snoc (.snoc (.snoc (.snoc (.snoc (.snoc (.snoc (.snoc (.snoc (.snoc (.snoc (.snoc (.snoc (.snoc (.snoc (.snoc (.snoc (.snoc (.snoc (.snoc (.snoc (.snoc (.snoc (.snoc (.snoc (.snoc (.snoc (.snoc .zero (InvOb.intro (d := (some 16)) (r := fun u _ => u = .slice (some ⟨bd, od, none⟩) n cd) 0 0 rfl rfl rfl (by kernel_rfl) (by kernel_rfl) rfl ?io4c0x0)) (InvOb.intro (d := (some 17)) (r := fun u _ => u = .int .i64 (k : Int)) 0 0 rfl rfl rfl (by kernel_rfl) (by kernel_rfl) rfl ?io4c0x1)) (InvOb.intro (d := (some 18)) (r := fun u _ => u = .pointer (some ⟨bd, od + k, none⟩)) 0 0 rfl rfl rfl (by kernel_rfl) (by kernel_rfl) rfl ?io4c0x2)) (InvOb.intro (d := (some 19)) (r := fun u _ => u = .bool false) 0 0 rfl rfl rfl (by kernel_rfl) (by kernel_rfl) rfl ?io4c0x3)) (InvOb.intro (d := (some 20)) (r := fun u _ => u = .bool false) 0 0 rfl rfl rfl (by kernel_rfl) (by kernel_rfl) rfl ?io4c0x4)) (InvOb.intro (d := (some 21)) (r := fun u _ => u = undef) 0 0 rfl rfl rfl (by kernel_rfl) (by kernel_rfl) rfl ?io4c0x5)) (InvOb.intro (d := (some 22)) (r := fun u _ => u = undef) 0 0 rfl rfl rfl (by kernel_rfl) (by kernel_rfl) rfl ?io4c0x6)) (InvOb.intro (d := (some 23)) (r := fun u _ => u = undef) 0 0 rfl rfl rfl (by kernel_rfl) (by kernel_rfl) rfl ?io4c0x7)) (InvOb.intro (d := (some 24)) (r := fun u _ => u = undef) 0 0 rfl rfl rfl (by kernel_rfl) (by kernel_rfl) rfl ?io4c0x8)) (InvOb.intro (d := (some 25)) (r := fun u _ => u = undef) 0 0 rfl rfl rfl (by kernel_rfl) (by kernel_rfl) rfl ?io4c0x9)) (InvOb.intro (d := (some 26)) (r := fun u _ => u = undef) 0 0 rfl rfl rfl (by kernel_rfl) (by kernel_rfl) rfl ?io4c0x10)) (InvOb.intro (d := (some 27)) (r := fun u _ => u = .bool false) 0 0 rfl rfl rfl (by kernel_rfl) (by kernel_rfl) rfl ?io4c0x11)) (InvOb.intro (d := (some 28)) (r := fun u _ => u = .bool false) 0 0 rfl rfl rfl (by kernel_rfl) (by kernel_rfl) rfl ?io4c0x12)) (InvOb.intro (d := (some 29)) (r := fun u _ => u = undef) 0 0 rfl rfl rfl (by kernel_rfl) (by kernel_rfl) rfl ?io4c0x13)) (InvOb.intro (d := (some 30)) (r := fun u _ => u = undef) 0 0 rfl rfl rfl (by kernel_rfl) (by kernel_rfl) rfl ?io4c0x14)) (InvOb.intro (d := (some 31)) (r := fun u _ => u = undef) 0 0 rfl rfl rfl (by kernel_rfl) (by kernel_rfl) rfl ?io4c0x15)) (InvOb.intro (d := (some 32)) (r := fun u _ => u = undef) 0 0 rfl rfl rfl (by kernel_rfl) (by kernel_rfl) rfl ?io4c0x16)) (InvOb.intro (d := (some 33)) (r := fun u _ => u = undef) 0 0 rfl rfl rfl (by kernel_rfl) (by kernel_rfl) rfl ?io4c0x17)) (InvOb.intro (d := (some 34)) (r := fun u _ => u = undef) 0 0 rfl rfl rfl (by kernel_rfl) (by kernel_rfl) rfl ?io4c0x18)) (InvOb.intro (d := (some 35)) (r := fun u _ => u = undef) 0 0 rfl rfl rfl (by kernel_rfl) (by kernel_rfl) rfl ?io4c0x19)) (InvOb.intro (d := (some 36)) (r := fun u _ => u = undef) 0 0 rfl rfl rfl (by kernel_rfl) (by kernel_rfl) rfl ?io4c0x20)) (InvOb.intro (d := (some 37)) (r := fun u _ => u = undef) 0 0 rfl rfl rfl (by kernel_rfl) (by kernel_rfl) rfl ?io4c0x21)) (InvOb.intro (d := (some 38)) (r := fun u _ => u = undef) 0 0 rfl rfl rfl (by kernel_rfl) (by kernel_rfl) rfl ?io4c0x22)) (InvOb.intro (d := (some 39)) (r := fun u _ => u = .bool false) 0 0 rfl rfl rfl (by kernel_rfl) (by kernel_rfl) rfl ?io4c0x23)) (InvOb.intro (d := (some 40)) (r := fun u _ => u = .bool false) 0 0 rfl rfl rfl (by kernel_rfl) (by kernel_rfl) rfl ?io4c0x24)) (InvOb.intro (d := (some 41)) (r := fun u _ => u = undef) 0 0 rfl rfl rfl (by kernel_rfl) (by kernel_rfl) rfl ?io4c0x25)) (InvOb.intro (d := (some 42)) (r := fun u _ => u = undef) 0 0 rfl rfl rfl (by kernel_rfl) (by kernel_rfl) rfl ?io4c0x26)) (InvOb.intro (d := (some 43)) (r := fun u _ => u = undef) 0 0 rfl rfl rfl (by kernel_rfl) (by kernel_rfl) rfl ?io4c0x27)) (InvOb.intro (d := (some 44)) (r := fun u _ => u = undef) 0 0 rfl rfl rfl (by kernel_rfl) (by kernel_rfl) rfl ?io4c0x28)) (InvOb.intro (d := (some 45)) (r := fun u _ => u = undef) 0 0 rfl rfl rfl (by kernel_rfl) (by kernel_rfl) rfl ?io4c0x29)) (InvOb.intro (d := (some 46)) (r := fun u _ => u = undef) 0 0 rfl rfl rfl (by kernel_rfl) (by kernel_rfl) rfl ?io4c0x30)) (InvOb.intro (d := (some 47)) (r := fun u _ => u = undef) 0 0 rfl rfl rfl (by kernel_rfl) (by kernel_rfl) rfl ?io4c0x31)) (InvOb.intro (d := (some 48)) (r := fun u _ => u = undef) 0 0 rfl rfl rfl (by kernel_rfl) (by kernel_rfl) rfl ?io4c0x32)) (InvOb.intro (d := (some 49)) (r := fun u _ => u = undef) 0 0 rfl rfl rfl (by kernel_rfl) (by kernel_rfl) rfl ?io4c0x33)) (InvOb.intro (d := (some 50)) (r := fun u _ => u = undef) 0 0 rfl rfl rfl (by kernel_rfl) (by kernel_rfl) rfl ?io4c0x34)) (InvOb.intro (d := (some 51)) (r := fun u _ => u = undef) 0 0 rfl rfl rfl (by kernel_rfl) (by kernel_rfl) rfl ?io4c0x35)) (InvOb.intro (d := (some 52)) (r := fun u _ => u = undef) 0 0 rfl rfl rfl (by kernel_rfl) (by kernel_rfl) rfl ?io4c0x36)) (InvOb.intro (d := (some 53)) (r := fun u _ => u = undef) 0 0 rfl rfl rfl (by kernel_rfl) (by kernel_rfl) rfl ?io4c0x37)) (InvOb.intro (d := (some 54)) (r := fun u _ => u = .bool false) 0 0 rfl rfl rfl (by kernel_rfl) (by kernel_rfl) rfl ?io4c0x38)), ?iend4c0⟩
        case io4c0x0 =>
          intro k1 w1 hk0 hk1 hb1 hS hd KK hK
          clear hd
          simp only [Act.put, List.setIfInBounds_toArray, List.set_cons_zero, List.set_cons_succ] at hK
          go_simp
          first | exact hK.out _ _ trivial hS rfl | (have hk := hK.out _ _ trivial hS rfl; revert hk; go_simp)
        case io4c0x1 =>
          intro k1 w1 hk0 hk1 hb1 hS hd KK hK
          clear hd
          simp only [Act.put, List.setIfInBounds_toArray, List.set_cons_zero, List.set_cons_succ] at hK
          go_simp
          first | exact hK.out _ _ trivial hS rfl | (have hk := hK.out _ _ trivial hS rfl; revert hk; go_simp)
        case io4c0x2 =>
          intro k1 w1 hk0 hk1 hb1 hS hd KK hK
          have d0 : x0 = .slice (some ⟨bd, od, none⟩) n cd := hd 0 (by kernel_rfl)
          have d1 : x1 = .int .i64 (k : Int) := hd 1 (by kernel_rfl)
          clear hd
          subst d0
          subst d1
          have g1 := hki
          simp only [Act.put, List.setIfInBounds_toArray, List.set_cons_zero, List.set_cons_succ] at hK
          go_simp
          first | exact hK.out _ _ trivial hS rfl | (have hk := hK.out _ _ trivial hS rfl; revert hk; go_simp)
        case io4c0x3 =>
          intro k1 w1 hk0 hk1 hb1 hS hd KK hK
          have d2 : x2 = .pointer (some ⟨bd, od + k, none⟩) := hd 2 (by kernel_rfl)
          clear hd
          subst d2
          obtain ⟨b9, o9, he9, hl9, d0⟩ := (HD.out.below hS.bel (Nat.le_refl _)) k HK.out
          cases he9
          rw [HDK.out] at d0
          simp only [Act.put, List.setIfInBounds_toArray, List.set_cons_zero, List.set_cons_succ] at hK
          go_simp
          first | exact hK.out _ _ trivial hS rfl | (have hk := hK.out _ _ trivial hS rfl; revert hk; go_simp)
        case io4c0x4 =>
          intro k1 w1 hk0 hk1 hb1 hS hd KK hK
          have d3 : x3 = .bool false := hd 3 (by kernel_rfl)
          clear hd
          subst d3
          simp only [Act.put, List.setIfInBounds_toArray, List.set_cons_zero, List.set_cons_succ] at hK
          go_simp
          first | exact hK.out _ _ trivial hS rfl | (have hk := hK.out _ _ trivial hS rfl; revert hk; go_simp)
        case io4c0x5 =>
          intro k1 w1 hk0 hk1 hb1 hS hd KK hK
          have d4 : x4 = .bool false := hd 4 (by kernel_rfl)
          clear hd
          subst d4
          simp only [Act.put, List.setIfInBounds_toArray, List.set_cons_zero, List.set_cons_succ] at hK
          go_simp
          first | exact hK.out _ _ trivial hS rfl | (have hk := hK.out _ _ trivial hS rfl; revert hk; go_simp)
        case io4c0x6 =>
          intro k1 w1 hk0 hk1 hb1 hS hd KK hK
          have d4 : x4 = .bool false := hd 4 (by kernel_rfl)
          clear hd
          subst d4
          simp only [Act.put, List.setIfInBounds_toArray, List.set_cons_zero, List.set_cons_succ] at hK
          go_simp
          first | exact hK.out _ _ trivial hS rfl | (have hk := hK.out _ _ trivial hS rfl; revert hk; go_simp)
        case io4c0x7 =>
          intro k1 w1 hk0 hk1 hb1 hS hd KK hK
          have d4 : x4 = .bool false := hd 4 (by kernel_rfl)
          have d5 : x5 = undef := hd 5 (by kernel_rfl)
          have d6 : x6 = undef := hd 6 (by kernel_rfl)
          clear hd
          subst d4
          subst d5
          subst d6
          simp only [Act.put, List.setIfInBounds_toArray, List.set_cons_zero, List.set_cons_succ] at hK
          go_simp
          first | exact hK.out _ _ trivial hS rfl | (have hk := hK.out _ _ trivial hS rfl; revert hk; go_simp)
        case io4c0x8 =>
          intro k1 w1 hk0 hk1 hb1 hS hd KK hK
          have d4 : x4 = .bool false := hd 4 (by kernel_rfl)
          have d7 : x7 = undef := hd 7 (by kernel_rfl)
          clear hd
          subst d4
          subst d7
          simp only [Act.put, List.setIfInBounds_toArray, List.set_cons_zero, List.set_cons_succ] at hK
          go_simp
          first | exact hK.out _ _ trivial hS rfl | (have hk := hK.out _ _ trivial hS rfl; revert hk; go_simp)
        case io4c0x9 =>
          intro k1 w1 hk0 hk1 hb1 hS hd KK hK
          have d4 : x4 = .bool false := hd 4 (by kernel_rfl)
          clear hd
          subst d4
          simp only [Act.put, List.setIfInBounds_toArray, List.set_cons_zero, List.set_cons_succ] at hK
          go_simp
          first | exact hK.out _ _ trivial hS rfl | (have hk := hK.out _ _ trivial hS rfl; revert hk; go_simp)
        case io4c0x10 =>
          intro k1 w1 hk0 hk1 hb1 hS hd KK hK
          have d4 : x4 = .bool false := hd 4 (by kernel_rfl)
          have d8 : x8 = undef := hd 8 (by kernel_rfl)
          have d9 : x9 = undef := hd 9 (by kernel_rfl)
          clear hd
          subst d4
          subst d8
          subst d9
          simp only [Act.put, List.setIfInBounds_toArray, List.set_cons_zero, List.set_cons_succ] at hK
          go_simp
          first | exact hK.out _ _ trivial hS rfl | (have hk := hK.out _ _ trivial hS rfl; revert hk; go_simp)
        case io4c0x11 =>
          intro k1 w1 hk0 hk1 hb1 hS hd KK hK
          have d4 : x4 = .bool false := hd 4 (by kernel_rfl)
          have d10 : x10 = undef := hd 10 (by kernel_rfl)
          clear hd
          subst d4
          subst d10
          simp only [Act.put, List.setIfInBounds_toArray, List.set_cons_zero, List.set_cons_succ] at hK
          go_simp
          first | exact hK.out _ _ trivial hS rfl | (have hk := hK.out _ _ trivial hS rfl; revert hk; go_simp)
        case io4c0x12 =>
          intro k1 w1 hk0 hk1 hb1 hS hd KK hK
          have d10 : x10 = undef := hd 10 (by kernel_rfl)
          have d11 : x11 = .bool false := hd 11 (by kernel_rfl)
          clear hd
          subst d10
          subst d11
          simp only [Act.put, List.setIfInBounds_toArray, List.set_cons_zero, List.set_cons_succ] at hK
          go_simp
          first | exact hK.out _ _ trivial hS rfl | (have hk := hK.out _ _ trivial hS rfl; revert hk; go_simp)
        case io4c0x13 =>
          intro k1 w1 hk0 hk1 hb1 hS hd KK hK
          have d12 : x12 = .bool false := hd 12 (by kernel_rfl)
          clear hd
          subst d12
          simp only [Act.put, List.setIfInBounds_toArray, List.set_cons_zero, List.set_cons_succ] at hK
          go_simp
          first | exact hK.out _ _ trivial hS rfl | (have hk := hK.out _ _ trivial hS rfl; revert hk; go_simp)
        case io4c0x14 =>
          intro k1 w1 hk0 hk1 hb1 hS hd KK hK
          have d12 : x12 = .bool false := hd 12 (by kernel_rfl)
          clear hd
          subst d12
          simp only [Act.put, List.setIfInBounds_toArray, List.set_cons_zero, List.set_cons_succ] at hK
          go_simp
          first | exact hK.out _ _ trivial hS rfl | (have hk := hK.out _ _ trivial hS rfl; revert hk; go_simp)
        case io4c0x15 =>
          intro k1 w1 hk0 hk1 hb1 hS hd KK hK
          have d12 : x12 = .bool false := hd 12 (by kernel_rfl)
          have d13 : x13 = undef := hd 13 (by kernel_rfl)
          have d14 : x14 = undef := hd 14 (by kernel_rfl)
          clear hd
          subst d12
          subst d13
          subst d14
          simp only [Act.put, List.setIfInBounds_toArray, List.set_cons_zero, List.set_cons_succ] at hK
          go_simp
          first | exact hK.out _ _ trivial hS rfl | (have hk := hK.out _ _ trivial hS rfl; revert hk; go_simp)
        case io4c0x16 =>
          intro k1 w1 hk0 hk1 hb1 hS hd KK hK
          have d12 : x12 = .bool false := hd 12 (by kernel_rfl)
          have d15 : x15 = undef := hd 15 (by kernel_rfl)
          clear hd
          subst d12
          subst d15
          simp only [Act.put, List.setIfInBounds_toArray, List.set_cons_zero, List.set_cons_succ] at hK
          go_simp
          first | exact hK.out _ _ trivial hS rfl | (have hk := hK.out _ _ trivial hS rfl; revert hk; go_simp)
        case io4c0x17 =>
          intro k1 w1 hk0 hk1 hb1 hS hd KK hK
          have d12 : x12 = .bool false := hd 12 (by kernel_rfl)
          have d16 : x16 = undef := hd 16 (by kernel_rfl)
          clear hd
          subst d12
          subst d16
          simp only [Act.put, List.setIfInBounds_toArray, List.set_cons_zero, List.set_cons_succ] at hK
          go_simp
          first | exact hK.out _ _ trivial hS rfl | (have hk := hK.out _ _ trivial hS rfl; revert hk; go_simp)
        case io4c0x18 =>
          intro k1 w1 hk0 hk1 hb1 hS hd KK hK
          have d12 : x12 = .bool false := hd 12 (by kernel_rfl)
          clear hd
          subst d12
          simp only [Act.put, List.setIfInBounds_toArray, List.set_cons_zero, List.set_cons_succ] at hK
          go_simp
          first | exact hK.out _ _ trivial hS rfl | (have hk := hK.out _ _ trivial hS rfl; revert hk; go_simp)
        case io4c0x19 =>
          intro k1 w1 hk0 hk1 hb1 hS hd KK hK
          have d12 : x12 = .bool false := hd 12 (by kernel_rfl)
          clear hd
          subst d12
          simp only [Act.put, List.setIfInBounds_toArray, List.set_cons_zero, List.set_cons_succ] at hK
          go_simp
          first | exact hK.out _ _ trivial hS rfl | (have hk := hK.out _ _ trivial hS rfl; revert hk; go_simp)
        case io4c0x20 =>
          intro k1 w1 hk0 hk1 hb1 hS hd KK hK
          have d12 : x12 = .bool false := hd 12 (by kernel_rfl)
          have d19 : x19 = undef := hd 19 (by kernel_rfl)
          clear hd
          subst d12
          subst d19
          simp only [Act.put, List.setIfInBounds_toArray, List.set_cons_zero, List.set_cons_succ] at hK
          go_simp
          first | exact hK.out _ _ trivial hS rfl | (have hk := hK.out _ _ trivial hS rfl; revert hk; go_simp)
        case io4c0x21 =>
          intro k1 w1 hk0 hk1 hb1 hS hd KK hK
          have d12 : x12 = .bool false := hd 12 (by kernel_rfl)
          have d18 : x18 = undef := hd 18 (by kernel_rfl)
          have d20 : x20 = undef := hd 20 (by kernel_rfl)
          clear hd
          subst d12
          subst d18
          subst d20
          simp only [Act.put, List.setIfInBounds_toArray, List.set_cons_zero, List.set_cons_succ] at hK
          go_simp
          first | exact hK.out _ _ trivial hS rfl | (have hk := hK.out _ _ trivial hS rfl; revert hk; go_simp)
        case io4c0x22 =>
          intro k1 w1 hk0 hk1 hb1 hS hd KK hK
          have d12 : x12 = .bool false := hd 12 (by kernel_rfl)
          have d17 : x17 = undef := hd 17 (by kernel_rfl)
          have d21 : x21 = undef := hd 21 (by kernel_rfl)
          clear hd
          subst d12
          subst d17
          subst d21
          simp only [Act.put, List.setIfInBounds_toArray, List.set_cons_zero, List.set_cons_succ] at hK
          go_simp
          first | exact hK.out _ _ trivial hS rfl | (have hk := hK.out _ _ trivial hS rfl; revert hk; go_simp)
        case io4c0x23 =>
          intro k1 w1 hk0 hk1 hb1 hS hd KK hK
          have d12 : x12 = .bool false := hd 12 (by kernel_rfl)
          have d22 : x22 = undef := hd 22 (by kernel_rfl)
          clear hd
          subst d12
          subst d22
          simp only [Act.put, List.setIfInBounds_toArray, List.set_cons_zero, List.set_cons_succ] at hK
          go_simp
          first | exact hK.out _ _ trivial hS rfl | (have hk := hK.out _ _ trivial hS rfl; revert hk; go_simp)
        case io4c0x24 =>
          intro k1 w1 hk0 hk1 hb1 hS hd KK hK
          have d12 : x12 = .bool false := hd 12 (by kernel_rfl)
          have d23 : x23 = .bool false := hd 23 (by kernel_rfl)
          clear hd
          subst d12
          subst d23
          simp only [Act.put, List.setIfInBounds_toArray, List.set_cons_zero, List.set_cons_succ] at hK
          go_simp
          first | exact hK.out _ _ trivial hS rfl | (have hk := hK.out _ _ trivial hS rfl; revert hk; go_simp)
        case io4c0x25 =>
          intro k1 w1 hk0 hk1 hb1 hS hd KK hK
          have d24 : x24 = .bool false := hd 24 (by kernel_rfl)
          clear hd
          subst d24
          simp only [Act.put, List.setIfInBounds_toArray, List.set_cons_zero, List.set_cons_succ] at hK
          go_simp
          first | exact hK.out _ _ trivial hS rfl | (have hk := hK.out _ _ trivial hS rfl; revert hk; go_simp)
        case io4c0x26 =>
          intro k1 w1 hk0 hk1 hb1 hS hd KK hK
          have d24 : x24 = .bool false := hd 24 (by kernel_rfl)
          clear hd
          subst d24
          simp only [Act.put, List.setIfInBounds_toArray, List.set_cons_zero, List.set_cons_succ] at hK
          go_simp
          first | exact hK.out _ _ trivial hS rfl | (have hk := hK.out _ _ trivial hS rfl; revert hk; go_simp)
        case io4c0x27 =>
          intro k1 w1 hk0 hk1 hb1 hS hd KK hK
          have d24 : x24 = .bool false := hd 24 (by kernel_rfl)
          clear hd
          subst d24
          simp only [Act.put, List.setIfInBounds_toArray, List.set_cons_zero, List.set_cons_succ] at hK
          go_simp
          first | exact hK.out _ _ trivial hS rfl | (have hk := hK.out _ _ trivial hS rfl; revert hk; go_simp)
        case io4c0x28 =>
          intro k1 w1 hk0 hk1 hb1 hS hd KK hK
          have d24 : x24 = .bool false := hd 24 (by kernel_rfl)
          have d26 : x26 = undef := hd 26 (by kernel_rfl)
          have d27 : x27 = undef := hd 27 (by kernel_rfl)
          clear hd
          subst d24
          subst d26
          subst d27
          simp only [Act.put, List.setIfInBounds_toArray, List.set_cons_zero, List.set_cons_succ] at hK
          go_simp
          first | exact hK.out _ _ trivial hS rfl | (have hk := hK.out _ _ trivial hS rfl; revert hk; go_simp)
        case io4c0x29 =>
          intro k1 w1 hk0 hk1 hb1 hS hd KK hK
          have d24 : x24 = .bool false := hd 24 (by kernel_rfl)
          have d28 : x28 = undef := hd 28 (by kernel_rfl)
          clear hd
          subst d24
          subst d28
          simp only [Act.put, List.setIfInBounds_toArray, List.set_cons_zero, List.set_cons_succ] at hK
          go_simp
          first | exact hK.out _ _ trivial hS rfl | (have hk := hK.out _ _ trivial hS rfl; revert hk; go_simp)
        case io4c0x30 =>
          intro k1 w1 hk0 hk1 hb1 hS hd KK hK
          have d24 : x24 = .bool false := hd 24 (by kernel_rfl)
          have d29 : x29 = undef := hd 29 (by kernel_rfl)
          clear hd
          subst d24
          subst d29
          simp only [Act.put, List.setIfInBounds_toArray, List.set_cons_zero, List.set_cons_succ] at hK
          go_simp
          first | exact hK.out _ _ trivial hS rfl | (have hk := hK.out _ _ trivial hS rfl; revert hk; go_simp)
        case io4c0x31 =>
          intro k1 w1 hk0 hk1 hb1 hS hd KK hK
          have d24 : x24 = .bool false := hd 24 (by kernel_rfl)
          clear hd
          subst d24
          simp only [Act.put, List.setIfInBounds_toArray, List.set_cons_zero, List.set_cons_succ] at hK
          go_simp
          first | exact hK.out _ _ trivial hS rfl | (have hk := hK.out _ _ trivial hS rfl; revert hk; go_simp)
        case io4c0x32 =>
          intro k1 w1 hk0 hk1 hb1 hS hd KK hK
          have d24 : x24 = .bool false := hd 24 (by kernel_rfl)
          clear hd
          subst d24
          simp only [Act.put, List.setIfInBounds_toArray, List.set_cons_zero, List.set_cons_succ] at hK
          go_simp
          first | exact hK.out _ _ trivial hS rfl | (have hk := hK.out _ _ trivial hS rfl; revert hk; go_simp)
        case io4c0x33 =>
          intro k1 w1 hk0 hk1 hb1 hS hd KK hK
          have d24 : x24 = .bool false := hd 24 (by kernel_rfl)
          have d31 : x31 = undef := hd 31 (by kernel_rfl)
          have d32 : x32 = undef := hd 32 (by kernel_rfl)
          clear hd
          subst d24
          subst d31
          subst d32
          simp only [Act.put, List.setIfInBounds_toArray, List.set_cons_zero, List.set_cons_succ] at hK
          go_simp
          first | exact hK.out _ _ trivial hS rfl | (have hk := hK.out _ _ trivial hS rfl; revert hk; go_simp)
        case io4c0x34 =>
          intro k1 w1 hk0 hk1 hb1 hS hd KK hK
          have d24 : x24 = .bool false := hd 24 (by kernel_rfl)
          have d33 : x33 = undef := hd 33 (by kernel_rfl)
          clear hd
          subst d24
          subst d33
          simp only [Act.put, List.setIfInBounds_toArray, List.set_cons_zero, List.set_cons_succ] at hK
          go_simp
          first | exact hK.out _ _ trivial hS rfl | (have hk := hK.out _ _ trivial hS rfl; revert hk; go_simp)
        case io4c0x35 =>
          intro k1 w1 hk0 hk1 hb1 hS hd KK hK
          have d24 : x24 = .bool false := hd 24 (by kernel_rfl)
          have d34 : x34 = undef := hd 34 (by kernel_rfl)
          clear hd
          subst d24
          subst d34
          simp only [Act.put, List.setIfInBounds_toArray, List.set_cons_zero, List.set_cons_succ] at hK
          go_simp
          first | exact hK.out _ _ trivial hS rfl | (have hk := hK.out _ _ trivial hS rfl; revert hk; go_simp)
        case io4c0x36 =>
          intro k1 w1 hk0 hk1 hb1 hS hd KK hK
          have d24 : x24 = .bool false := hd 24 (by kernel_rfl)
          have d30 : x30 = undef := hd 30 (by kernel_rfl)
          have d35 : x35 = undef := hd 35 (by kernel_rfl)
          clear hd
          subst d24
          subst d30
          subst d35
          simp only [Act.put, List.setIfInBounds_toArray, List.set_cons_zero, List.set_cons_succ] at hK
          go_simp
          first | exact hK.out _ _ trivial hS rfl | (have hk := hK.out _ _ trivial hS rfl; revert hk; go_simp)
        case io4c0x37 =>
          intro k1 w1 hk0 hk1 hb1 hS hd KK hK
          have d24 : x24 = .bool false := hd 24 (by kernel_rfl)
          have d25 : x25 = undef := hd 25 (by kernel_rfl)
          have d36 : x36 = undef := hd 36 (by kernel_rfl)
          clear hd
          subst d24
          subst d25
          subst d36
          simp only [Act.put, List.setIfInBounds_toArray, List.set_cons_zero, List.set_cons_succ] at hK
          go_simp
          first | exact hK.out _ _ trivial hS rfl | (have hk := hK.out _ _ trivial hS rfl; revert hk; go_simp)
        case io4c0x38 =>
          intro k1 w1 hk0 hk1 hb1 hS hd KK hK
          have d24 : x24 = .bool false := hd 24 (by kernel_rfl)
          have d37 : x37 = undef := hd 37 (by kernel_rfl)
          clear hd
          subst d24
          subst d37
          simp only [Act.put, List.setIfInBounds_toArray, List.set_cons_zero, List.set_cons_succ] at hK
          go_simp
          first | exact hK.out _ _ trivial hS rfl | (have hk := hK.out _ _ trivial hS rfl; revert hk; go_simp)
        case iend4c0 =>
          intro w1 hb1 hS hR
          have d0 : x0 = .slice (some ⟨bd, od, none⟩) n cd := hR 0 (by decide)
          have d1 : x1 = .int .i64 (k : Int) := hR 1 (by decide)
          have d2 : x2 = .pointer (some ⟨bd, od + k, none⟩) := hR 2 (by decide)
          have d3 : x3 = .bool false := hR 3 (by decide)
          have d4 : x4 = .bool false := hR 4 (by decide)
          have d5 : x5 = undef := hR 5 (by decide)
          have d6 : x6 = undef := hR 6 (by decide)
          have d7 : x7 = undef := hR 7 (by decide)
          have d8 : x8 = undef := hR 8 (by decide)
          have d9 : x9 = undef := hR 9 (by decide)
          have d10 : x10 = undef := hR 10 (by decide)
          have d11 : x11 = .bool false := hR 11 (by decide)
          have d12 : x12 = .bool false := hR 12 (by decide)
          have d13 : x13 = undef := hR 13 (by decide)
          have d14 : x14 = undef := hR 14 (by decide)
          have d15 : x15 = undef := hR 15 (by decide)
          have d16 : x16 = undef := hR 16 (by decide)
          have d17 : x17 = undef := hR 17 (by decide)
          have d18 : x18 = undef := hR 18 (by decide)
          have d19 : x19 = undef := hR 19 (by decide)
          have d20 : x20 = undef := hR 20 (by decide)
          have d21 : x21 = undef := hR 21 (by decide)
          have d22 : x22 = undef := hR 22 (by decide)
          have d23 : x23 = .bool false := hR 23 (by decide)
          have d24 : x24 = .bool false := hR 24 (by decide)
          have d25 : x25 = undef := hR 25 (by decide)
          have d26 : x26 = undef := hR 26 (by decide)
          have d27 : x27 = undef := hR 27 (by decide)
          have d28 : x28 = undef := hR 28 (by decide)
          have d29 : x29 = undef := hR 29 (by decide)
          have d30 : x30 = undef := hR 30 (by decide)
          have d31 : x31 = undef := hR 31 (by decide)
          have d32 : x32 = undef := hR 32 (by decide)
          have d33 : x33 = undef := hR 33 (by decide)
          have d34 : x34 = undef := hR 34 (by decide)
          have d35 : x35 = undef := hR 35 (by decide)
          have d36 : x36 = undef := hR 36 (by decide)
          have d37 : x37 = undef := hR 37 (by decide)
          have d38 : x38 = .bool false := hR 38 (by decide)
          clear hR
          subst d0
          subst d1
          subst d2
          subst d3
          subst d4
          subst d5
          subst d6
          subst d7
          subst d8
          subst d9
          subst d10
          subst d11
          subst d12
          subst d13
          subst d14
          subst d15
          subst d16
          subst d17
          subst d18
          subst d19
          subst d20
          subst d21
          subst d22
          subst d23
          subst d24
          subst d25
          subst d26
          subst d27
          subst d28
          subst d29
          subst d30
          subst d31
          subst d32
          subst d33
          subst d34
          subst d35
          subst d36
          subst d37
          subst d38
          try simp only [putAll, Act.put, List.setIfInBounds_toArray, List.set_cons_zero, List.set_cons_succ]
          have F3 := Lib.hid hS
          clear hS hb1 F2
          have HA2 : Hid (FreeD P D (k + 1) ⟨y1, y2, y3, y4⟩ p) := Lib.hid (HDEF.out.2 ⟨HA.out, fun h => by cases h⟩)
          go_wp2
          go_roundw
          case rel => exact ⟨k + 1, by first | rfl | go_num, by omega, HA2, F3⟩
          case measure => (simp only [intOf]; omega)
      | true =>
        have hq := hqs rfl
        simp only at hps hq
        have HW1 := Lib.hid (show IntKind.i64.wrap (p + y3) = p + y3 from IntWalk.i64_in _ (by omega))
        have HW2 := Lib.hid (show IntKind.i64.wrap (z4 + z3) = z4 + z3 from IntWalk.i64_in _ (by omega))
        clear hq hps hqs
        cases mk with
        | false =>
          refine wp_region_inv (w := wo) 39 (fun _ _ => True) (fun _ W => Fr w.heap.size w W [(w.heap.size, [.int .i64 y1, .int .i64 y2, .int .i64 y3, .int .i64 y4])] [] [] []) [] [(fun u _ => u = .slice (some ⟨bd, od, none⟩) n cd), (fun u _ => u = .int .i64 (k : Int)), (fun u _ => u = .pointer (some ⟨bd, od + k, none⟩)), (fun u _ => u = .bool true), (fun u _ => u = .bool true), (fun u _ => u = .slice (some ⟨b, o, none⟩) n c), (fun u _ => u = .int .i64 (k : Int)), (fun u _ => u = .pointer (some ⟨b, o + k * 4, none⟩)), (fun u _ => u = .agg #[.int .i64 z1, .int .i64 z2, .int .i64 z3, .int .i64 z4]), (fun u _ => u = .agg #[.int .i64 y1, .int .i64 y2, .int .i64 y3, .int .i64 y4]), (fun u _ => u = .bool false), (fun u _ => u = .bool false), (fun u _ => u = .bool false), (fun u _ => u = undef), (fun u _ => u = undef), (fun u _ => u = undef), (fun u _ => u = undef), (fun u _ => u = undef), (fun u _ => u = undef), (fun u _ => u = undef), (fun u _ => u = undef), (fun u _ => u = undef), (fun u _ => u = undef), (fun u _ => u = .bool false), (fun u _ => u = .bool false), (fun u _ => u = undef), (fun u _ => u = undef), (fun u _ => u = undef), (fun u _ => u = undef), (fun u _ => u = undef), (fun u _ => u = undef), (fun u _ => u = undef), (fun u _ => u = undef), (fun u _ => u = undef), (fun u _ => u = undef), (fun u _ => u = undef), (fun u _ => u = undef), (fun u _ => u = undef), (fun u _ => u = .bool false)] [some 16, some 17, some 18, some 19, some 20, some 21, some 22, some 23, some 24, some 25, some 26, some 27, some 28, some 29, some 30, some 31, some 32, some 33, some 34, some 35, some 36, some 37, some 38, some 39, some 40, some 41, some 42, some 43, some 44, some 45, some 46, some 47, some 48, some 49, some 50, some 51, some 52, some 53, some 54] (by kernel_rfl) (by kernel_rfl) rfl (by kernel_rfl) (by kernel_rfl) (by decide) (by decide) (fun _ _ => trivial) trivial F2.out.drew (BorneAll.at (.cons (borne_eq _) (.cons (borne_eq _) (.cons (borne_eq _) (.cons (borne_eq _) (.cons (borne_eq _) (.cons (borne_eq _) (.cons (borne_eq _) (.cons (borne_eq _) (.cons (borne_eq _) (.cons (borne_eq _) (.cons (borne_eq _) (.cons (borne_eq _) (.cons (borne_eq _) (.cons (borne_eq _) (.cons (borne_eq _) (.cons (borne_eq _) (.cons (borne_eq _) (.cons (borne_eq _) (.cons (borne_eq _) (.cons (borne_eq _) (.cons (borne_eq _) (.cons (borne_eq _) (.cons (borne_eq _) (.cons (borne_eq _) (.cons (borne_eq _) (.cons (borne_eq _) (.cons (borne_eq _) (.cons (borne_eq _) (.cons (borne_eq _) (.cons (borne_eq _) (.cons (borne_eq _) (.cons (borne_eq _) (.cons (borne_eq _) (.cons (borne_eq _) (.cons (borne_eq _) (.cons (borne_eq _) (.cons (borne_eq _) (.cons (borne_eq _) (.cons (borne_eq _) .nil)))))))))))))))))))))))))))))))))))))))) (fun vs b hvl hvb => ?_)
          obtain ⟨x0, x1, x2, x3, x4, x5, x6, x7, x8, x9, x10, x11, x12, x13, x14, x15, x16, x17, x18, x19, x20, x21, x22, x23, x24, x25, x26, x27, x28, x29, x30, x31, x32, x33, x34, x35, x36, x37, x38, rfl⟩ : ∃ x0 x1 x2 x3 x4 x5 x6 x7 x8 x9 x10 x11 x12 x13 x14 x15 x16 x17 x18 x19 x20 x21 x22 x23 x24 x25 x26 x27 x28 x29 x30 x31 x32 x33 x34 x35 x36 x37 x38, vs = [x0, x1, x2, x3, x4, x5, x6, x7, x8, x9, x10, x11, x12, x13, x14, x15, x16, x17, x18, x19, x20, x21, x22, x23, x24, x25, x26, x27, x28, x29, x30, x31, x32, x33, x34, x35, x36, x37, x38] := lc39 hvl
          clear hvl
          simp only [putAll, Act.put, List.setIfInBounds_toArray, List.set_cons_zero, List.set_cons_succ] at hvb
          subst hvb
          refine ⟨(.snoc (.snoc (.snoc (.snoc (.snoc (.snoc (.snoc (.snoc (.snoc (.snoc (.snoc (.snoc (.snoc (.snoc (.snoc (.snoc (.snoc (.snoc (.snoc (.snoc (.snoc (.snoc (.snoc (.snoc (.snoc (.snoc (.snoc (.snoc (.snoc (.snoc (.snoc (.snoc (.snoc (.snoc (.snoc (.snoc (.snoc (.snoc (.snoc .zero (InvOb.intro (d := (some 16)) (r := fun u _ => u = .slice (some ⟨bd, od, none⟩) n cd) 0 0 rfl rfl rfl (by kernel_rfl) (by kernel_rfl) rfl ?io4c1x0)) (InvOb.intro (d := (some 17)) (r := fun u _ => u = .int .i64 (k : Int)) 0 0 rfl rfl rfl (by kernel_rfl) (by kernel_rfl) rfl ?io4c1x1)) (InvOb.intro (d := (some 18)) (r := fun u _ => u = .pointer (some ⟨bd, od + k, none⟩)) 0 0 rfl rfl rfl (by kernel_rfl) (by kernel_rfl) rfl ?io4c1x2)) (InvOb.intro (d := (some 19)) (r := fun u _ => u = .bool true) 0 0 rfl rfl rfl (by kernel_rfl) (by kernel_rfl) rfl ?io4c1x3)) (InvOb.intro (d := (some 20)) (r := fun u _ => u = .bool true) 0 0 rfl rfl rfl (by kernel_rfl) (by kernel_rfl) rfl ?io4c1x4)) (InvOb.intro (d := (some 21)) (r := fun u _ => u = .slice (some ⟨b, o, none⟩) n c) 0 0 rfl rfl rfl (by kernel_rfl) (by kernel_rfl) rfl ?io4c1x5)) (InvOb.intro (d := (some 22)) (r := fun u _ => u = .int .i64 (k : Int)) 0 0 rfl rfl rfl (by kernel_rfl) (by kernel_rfl) rfl ?io4c1x6)) (InvOb.intro (d := (some 23)) (r := fun u _ => u = .pointer (some ⟨b, o + k * 4, none⟩)) 0 0 rfl rfl rfl (by kernel_rfl) (by kernel_rfl) rfl ?io4c1x7)) (InvOb.intro (d := (some 24)) (r := fun u _ => u = .agg #[.int .i64 z1, .int .i64 z2, .int .i64 z3, .int .i64 z4]) 0 0 rfl rfl rfl (by kernel_rfl) (by kernel_rfl) rfl ?io4c1x8)) (InvOb.intro (d := (some 25)) (r := fun u _ => u = .agg #[.int .i64 y1, .int .i64 y2, .int .i64 y3, .int .i64 y4]) 0 0 rfl rfl rfl (by kernel_rfl) (by kernel_rfl) rfl ?io4c1x9)) (InvOb.intro (d := (some 26)) (r := fun u _ => u = .bool false) 0 0 rfl rfl rfl (by kernel_rfl) (by kernel_rfl) rfl ?io4c1x10)) (InvOb.intro (d := (some 27)) (r := fun u _ => u = .bool false) 0 0 rfl rfl rfl (by kernel_rfl) (by kernel_rfl) rfl ?io4c1x11)) (InvOb.intro (d := (some 28)) (r := fun u _ => u = .bool false) 0 0 rfl rfl rfl (by kernel_rfl) (by kernel_rfl) rfl ?io4c1x12)) (InvOb.intro (d := (some 29)) (r := fun u _ => u = undef) 0 0 rfl rfl rfl (by kernel_rfl) (by kernel_rfl) rfl ?io4c1x13)) (InvOb.intro (d := (some 30)) (r := fun u _ => u = undef) 0 0 rfl rfl rfl (by kernel_rfl) (by kernel_rfl) rfl ?io4c1x14)) (InvOb.intro (d := (some 31)) (r := fun u _ => u = undef) 0 0 rfl rfl rfl (by kernel_rfl) (by kernel_rfl) rfl ?io4c1x15)) (InvOb.intro (d := (some 32)) (r := fun u _ => u = undef) 0 0 rfl rfl rfl (by kernel_rfl) (by kernel_rfl) rfl ?io4c1x16)) (InvOb.intro (d := (some 33)) (r := fun u _ => u = undef) 0 0 rfl rfl rfl (by kernel_rfl) (by kernel_rfl) rfl ?io4c1x17)) (InvOb.intro (d := (some 34)) (r := fun u _ => u = undef) 0 0 rfl rfl rfl (by kernel_rfl) (by kernel_rfl) rfl ?io4c1x18)) (InvOb.intro (d := (some 35)) (r := fun u _ => u = undef) 0 0 rfl rfl rfl (by kernel_rfl) (by kernel_rfl) rfl ?io4c1x19)) (InvOb.intro (d := (some 36)) (r := fun u _ => u = undef) 0 0 rfl rfl rfl (by kernel_rfl) (by kernel_rfl) rfl ?io4c1x20)) (InvOb.intro (d := (some 37)) (r := fun u _ => u = undef) 0 0 rfl rfl rfl (by kernel_rfl) (by kernel_rfl) rfl ?io4c1x21)) (InvOb.intro (d := (some 38)) (r := fun u _ => u = undef) 0 0 rfl rfl rfl (by kernel_rfl) (by kernel_rfl) rfl ?io4c1x22)) (InvOb.intro (d := (some 39)) (r := fun u _ => u = .bool false) 0 0 rfl rfl rfl (by kernel_rfl) (by kernel_rfl) rfl ?io4c1x23)) (InvOb.intro (d := (some 40)) (r := fun u _ => u = .bool false) 0 0 rfl rfl rfl (by kernel_rfl) (by kernel_rfl) rfl ?io4c1x24)) (InvOb.intro (d := (some 41)) (r := fun u _ => u = undef) 0 0 rfl rfl rfl (by kernel_rfl) (by kernel_rfl) rfl ?io4c1x25)) (InvOb.intro (d := (some 42)) (r := fun u _ => u = undef) 0 0 rfl rfl rfl (by kernel_rfl) (by kernel_rfl) rfl ?io4c1x26)) (InvOb.intro (d := (some 43)) (r := fun u _ => u = undef) 0 0 rfl rfl rfl (by kernel_rfl) (by kernel_rfl) rfl ?io4c1x27)) (InvOb.intro (d := (some 44)) (r := fun u _ => u = undef) 0 0 rfl rfl rfl (by kernel_rfl) (by kernel_rfl) rfl ?io4c1x28)) (InvOb.intro (d := (some 45)) (r := fun u _ => u = undef) 0 0 rfl rfl rfl (by kernel_rfl) (by kernel_rfl) rfl ?io4c1x29)) (InvOb.intro (d := (some 46)) (r := fun u _ => u = undef) 0 0 rfl rfl rfl (by kernel_rfl) (by kernel_rfl) rfl ?io4c1x30)) (InvOb.intro (d := (some 47)) (r := fun u _ => u = undef) 0 0 rfl rfl rfl (by kernel_rfl) (by kernel_rfl) rfl ?io4c1x31)) (InvOb.intro (d := (some 48)) (r := fun u _ => u = undef) 0 0 rfl rfl rfl (by kernel_rfl) (by kernel_rfl) rfl ?io4c1x32)) (InvOb.intro (d := (some 49)) (r := fun u _ => u = undef) 0 0 rfl rfl rfl (by kernel_rfl) (by kernel_rfl) rfl ?io4c1x33)) (InvOb.intro (d := (some 50)) (r := fun u _ => u = undef) 0 0 rfl rfl rfl (by kernel_rfl) (by kernel_rfl) rfl ?io4c1x34)) (InvOb.intro (d := (some 51)) (r := fun u _ => u = undef) 0 0 rfl rfl rfl (by kernel_rfl) (by kernel_rfl) rfl ?io4c1x35)) (InvOb.intro (d := (some 52)) (r := fun u _ => u = undef) 0 0 rfl rfl rfl (by kernel_rfl) (by kernel_rfl) rfl ?io4c1x36)) (InvOb.intro (d := (some 53)) (r := fun u _ => u = undef) 0 0 rfl rfl rfl (by kernel_rfl) (by kernel_rfl) rfl ?io4c1x37)) (InvOb.intro (d := (some 54)) (r := fun u _ => u = .bool false) 0 0 rfl rfl rfl (by kernel_rfl) (by kernel_rfl) rfl ?io4c1x38)), ?iend4c1⟩
          case io4c1x0 =>
            intro k1 w1 hk0 hk1 hb1 hS hd KK hK
            clear hd
            simp only [Act.put, List.setIfInBounds_toArray, List.set_cons_zero, List.set_cons_succ] at hK
            go_simp
            first | exact hK.out _ _ trivial hS rfl | (have hk := hK.out _ _ trivial hS rfl; revert hk; go_simp)
          case io4c1x1 =>
            intro k1 w1 hk0 hk1 hb1 hS hd KK hK
            clear hd
            simp only [Act.put, List.setIfInBounds_toArray, List.set_cons_zero, List.set_cons_succ] at hK
            go_simp
            first | exact hK.out _ _ trivial hS rfl | (have hk := hK.out _ _ trivial hS rfl; revert hk; go_simp)
          case io4c1x2 =>
            intro k1 w1 hk0 hk1 hb1 hS hd KK hK
            have d0 : x0 = .slice (some ⟨bd, od, none⟩) n cd := hd 0 (by kernel_rfl)
            have d1 : x1 = .int .i64 (k : Int) := hd 1 (by kernel_rfl)
            clear hd
            subst d0
            subst d1
            have g1 := hki
            simp only [Act.put, List.setIfInBounds_toArray, List.set_cons_zero, List.set_cons_succ] at hK
            go_simp
            first | exact hK.out _ _ trivial hS rfl | (have hk := hK.out _ _ trivial hS rfl; revert hk; go_simp)
          case io4c1x3 =>
            intro k1 w1 hk0 hk1 hb1 hS hd KK hK
            have d2 : x2 = .pointer (some ⟨bd, od + k, none⟩) := hd 2 (by kernel_rfl)
            clear hd
            subst d2
            obtain ⟨b9, o9, he9, hl9, d0⟩ := (HD.out.below hS.bel (Nat.le_refl _)) k HK.out
            cases he9
            rw [HDK.out] at d0
            simp only [Act.put, List.setIfInBounds_toArray, List.set_cons_zero, List.set_cons_succ] at hK
            go_simp
            first | exact hK.out _ _ trivial hS rfl | (have hk := hK.out _ _ trivial hS rfl; revert hk; go_simp)
          case io4c1x4 =>
            intro k1 w1 hk0 hk1 hb1 hS hd KK hK
            have d3 : x3 = .bool true := hd 3 (by kernel_rfl)
            clear hd
            subst d3
            simp only [Act.put, List.setIfInBounds_toArray, List.set_cons_zero, List.set_cons_succ] at hK
            go_simp
            first | exact hK.out _ _ trivial hS rfl | (have hk := hK.out _ _ trivial hS rfl; revert hk; go_simp)
          case io4c1x5 =>
            intro k1 w1 hk0 hk1 hb1 hS hd KK hK
            have d4 : x4 = .bool true := hd 4 (by kernel_rfl)
            clear hd
            subst d4
            simp only [Act.put, List.setIfInBounds_toArray, List.set_cons_zero, List.set_cons_succ] at hK
            go_simp
            first | exact hK.out _ _ trivial hS rfl | (have hk := hK.out _ _ trivial hS rfl; revert hk; go_simp)
          case io4c1x6 =>
            intro k1 w1 hk0 hk1 hb1 hS hd KK hK
            have d4 : x4 = .bool true := hd 4 (by kernel_rfl)
            clear hd
            subst d4
            simp only [Act.put, List.setIfInBounds_toArray, List.set_cons_zero, List.set_cons_succ] at hK
            go_simp
            first | exact hK.out _ _ trivial hS rfl | (have hk := hK.out _ _ trivial hS rfl; revert hk; go_simp)
          case io4c1x7 =>
            intro k1 w1 hk0 hk1 hb1 hS hd KK hK
            have d4 : x4 = .bool true := hd 4 (by kernel_rfl)
            have d5 : x5 = .slice (some ⟨b, o, none⟩) n c := hd 5 (by kernel_rfl)
            have d6 : x6 = .int .i64 (k : Int) := hd 6 (by kernel_rfl)
            clear hd
            subst d4
            subst d5
            subst d6
            have g1 := hki
            simp only [Act.put, List.setIfInBounds_toArray, List.set_cons_zero, List.set_cons_succ] at hK
            go_simp
            first | exact hK.out _ _ trivial hS rfl | (have hk := hK.out _ _ trivial hS rfl; revert hk; go_simp)
          case io4c1x8 =>
            intro k1 w1 hk0 hk1 hb1 hS hd KK hK
            have d4 : x4 = .bool true := hd 4 (by kernel_rfl)
            have d7 : x7 = .pointer (some ⟨b, o + k * 4, none⟩) := hd 7 (by kernel_rfl)
            clear hd
            subst d4
            subst d7
            obtain ⟨b9, o9, he9, hl9, d0, d1, d2, d3⟩ := (HL.out.below hS.bel (Nat.le_refl _)).four HK.out
            cases he9
            rw [HX.out] at d0 d1 d2 d3
            simp only [Act.put, List.setIfInBounds_toArray, List.set_cons_zero, List.set_cons_succ] at hK
            go_simp
            first | exact hK.out _ _ trivial hS rfl | (have hk := hK.out _ _ trivial hS rfl; revert hk; go_simp)
          case io4c1x9 =>
            intro k1 w1 hk0 hk1 hb1 hS hd KK hK
            have d4 : x4 = .bool true := hd 4 (by kernel_rfl)
            clear hd
            subst d4
            have k0 := hS.c 0 0 rfl rfl
            have k1 := hS.c 0 1 rfl rfl
            have k2 := hS.c 0 2 rfl rfl
            have k3 := hS.c 0 3 rfl rfl
            simp only [Act.put, List.setIfInBounds_toArray, List.set_cons_zero, List.set_cons_succ] at hK
            go_simp
            first | exact hK.out _ _ trivial hS rfl | (have hk := hK.out _ _ trivial hS rfl; revert hk; go_simp)
          case io4c1x10 =>
            intro k1 w1 hk0 hk1 hb1 hS hd KK hK
            have d4 : x4 = .bool true := hd 4 (by kernel_rfl)
            have d8 : x8 = .agg #[.int .i64 z1, .int .i64 z2, .int .i64 z3, .int .i64 z4] := hd 8 (by kernel_rfl)
            have d9 : x9 = .agg #[.int .i64 y1, .int .i64 y2, .int .i64 y3, .int .i64 y4] := hd 9 (by kernel_rfl)
            clear hd
            subst d4
            subst d8
            subst d9
            simp only [Act.put, List.setIfInBounds_toArray, List.set_cons_zero, List.set_cons_succ] at hK
            go_simp
            go_at_call 12
            refine (HME.out w1).mono ?_
            rintro e w2 ⟨rfl, hb⟩
            (try go_wp2_with fail)
            first | exact hK.out _ _ trivial (hS.next hb) rfl | (have hk := hK.out _ _ trivial (hS.next hb) rfl; revert hk; go_simp)
          case io4c1x11 =>
            intro k1 w1 hk0 hk1 hb1 hS hd KK hK
            have d4 : x4 = .bool true := hd 4 (by kernel_rfl)
            have d10 : x10 = .bool false := hd 10 (by kernel_rfl)
            clear hd
            subst d4
            subst d10
            simp only [Act.put, List.setIfInBounds_toArray, List.set_cons_zero, List.set_cons_succ] at hK
            go_simp
            first | exact hK.out _ _ trivial hS rfl | (have hk := hK.out _ _ trivial hS rfl; revert hk; go_simp)
          case io4c1x12 =>
            intro k1 w1 hk0 hk1 hb1 hS hd KK hK
            have d10 : x10 = .bool false := hd 10 (by kernel_rfl)
            have d11 : x11 = .bool false := hd 11 (by kernel_rfl)
            clear hd
            subst d10
            subst d11
            simp only [Act.put, List.setIfInBounds_toArray, List.set_cons_zero, List.set_cons_succ] at hK
            go_simp
            first | exact hK.out _ _ trivial hS rfl | (have hk := hK.out _ _ trivial hS rfl; revert hk; go_simp)
          case io4c1x13 =>
            intro k1 w1 hk0 hk1 hb1 hS hd KK hK
            have d12 : x12 = .bool false := hd 12 (by kernel_rfl)
            clear hd
            subst d12
            simp only [Act.put, List.setIfInBounds_toArray, List.set_cons_zero, List.set_cons_succ] at hK
            go_simp
            first | exact hK.out _ _ trivial hS rfl | (have hk := hK.out _ _ trivial hS rfl; revert hk; go_simp)
          case io4c1x14 =>
            intro k1 w1 hk0 hk1 hb1 hS hd KK hK
            have d12 : x12 = .bool false := hd 12 (by kernel_rfl)
            clear hd
            subst d12
            simp only [Act.put, List.setIfInBounds_toArray, List.set_cons_zero, List.set_cons_succ] at hK
            go_simp
            first | exact hK.out _ _ trivial hS rfl | (have hk := hK.out _ _ trivial hS rfl; revert hk; go_simp)
          case io4c1x15 =>
            intro k1 w1 hk0 hk1 hb1 hS hd KK hK
            have d12 : x12 = .bool false := hd 12 (by kernel_rfl)
            have d13 : x13 = undef := hd 13 (by kernel_rfl)
            have d14 : x14 = undef := hd 14 (by kernel_rfl)
            clear hd
            subst d12
            subst d13
            subst d14
            simp only [Act.put, List.setIfInBounds_toArray, List.set_cons_zero, List.set_cons_succ] at hK
            go_simp
            first | exact hK.out _ _ trivial hS rfl | (have hk := hK.out _ _ trivial hS rfl; revert hk; go_simp)
          case io4c1x16 =>
            intro k1 w1 hk0 hk1 hb1 hS hd KK hK
            have d12 : x12 = .bool false := hd 12 (by kernel_rfl)
            have d15 : x15 = undef := hd 15 (by kernel_rfl)
            clear hd
            subst d12
            subst d15
            simp only [Act.put, List.setIfInBounds_toArray, List.set_cons_zero, List.set_cons_succ] at hK
            go_simp
            first | exact hK.out _ _ trivial hS rfl | (have hk := hK.out _ _ trivial hS rfl; revert hk; go_simp)
          case io4c1x17 =>
            intro k1 w1 hk0 hk1 hb1 hS hd KK hK
            have d12 : x12 = .bool false := hd 12 (by kernel_rfl)
            have d16 : x16 = undef := hd 16 (by kernel_rfl)
            clear hd
            subst d12
            subst d16
            simp only [Act.put, List.setIfInBounds_toArray, List.set_cons_zero, List.set_cons_succ] at hK
            go_simp
            first | exact hK.out _ _ trivial hS rfl | (have hk := hK.out _ _ trivial hS rfl; revert hk; go_simp)
          case io4c1x18 =>
            intro k1 w1 hk0 hk1 hb1 hS hd KK hK
            have d12 : x12 = .bool false := hd 12 (by kernel_rfl)
            clear hd
            subst d12
            simp only [Act.put, List.setIfInBounds_toArray, List.set_cons_zero, List.set_cons_succ] at hK
            go_simp
            first | exact hK.out _ _ trivial hS rfl | (have hk := hK.out _ _ trivial hS rfl; revert hk; go_simp)
          case io4c1x19 =>
            intro k1 w1 hk0 hk1 hb1 hS hd KK hK
            have d12 : x12 = .bool false := hd 12 (by kernel_rfl)
            clear hd
            subst d12
            simp only [Act.put, List.setIfInBounds_toArray, List.set_cons_zero, List.set_cons_succ] at hK
            go_simp
            first | exact hK.out _ _ trivial hS rfl | (have hk := hK.out _ _ trivial hS rfl; revert hk; go_simp)
          case io4c1x20 =>
            intro k1 w1 hk0 hk1 hb1 hS hd KK hK
            have d12 : x12 = .bool false := hd 12 (by kernel_rfl)
            have d19 : x19 = undef := hd 19 (by kernel_rfl)
            clear hd
            subst d12
            subst d19
            simp only [Act.put, List.setIfInBounds_toArray, List.set_cons_zero, List.set_cons_succ] at hK
            go_simp
            first | exact hK.out _ _ trivial hS rfl | (have hk := hK.out _ _ trivial hS rfl; revert hk; go_simp)
          case io4c1x21 =>
            intro k1 w1 hk0 hk1 hb1 hS hd KK hK
            have d12 : x12 = .bool false := hd 12 (by kernel_rfl)
            have d18 : x18 = undef := hd 18 (by kernel_rfl)
            have d20 : x20 = undef := hd 20 (by kernel_rfl)
            clear hd
            subst d12
            subst d18
            subst d20
            simp only [Act.put, List.setIfInBounds_toArray, List.set_cons_zero, List.set_cons_succ] at hK
            go_simp
            first | exact hK.out _ _ trivial hS rfl | (have hk := hK.out _ _ trivial hS rfl; revert hk; go_simp)
          case io4c1x22 =>
            intro k1 w1 hk0 hk1 hb1 hS hd KK hK
            have d12 : x12 = .bool false := hd 12 (by kernel_rfl)
            have d17 : x17 = undef := hd 17 (by kernel_rfl)
            have d21 : x21 = undef := hd 21 (by kernel_rfl)
            clear hd
            subst d12
            subst d17
            subst d21
            simp only [Act.put, List.setIfInBounds_toArray, List.set_cons_zero, List.set_cons_succ] at hK
            go_simp
            first | exact hK.out _ _ trivial hS rfl | (have hk := hK.out _ _ trivial hS rfl; revert hk; go_simp)
          case io4c1x23 =>
            intro k1 w1 hk0 hk1 hb1 hS hd KK hK
            have d12 : x12 = .bool false := hd 12 (by kernel_rfl)
            have d22 : x22 = undef := hd 22 (by kernel_rfl)
            clear hd
            subst d12
            subst d22
            simp only [Act.put, List.setIfInBounds_toArray, List.set_cons_zero, List.set_cons_succ] at hK
            go_simp
            first | exact hK.out _ _ trivial hS rfl | (have hk := hK.out _ _ trivial hS rfl; revert hk; go_simp)
          case io4c1x24 =>
            intro k1 w1 hk0 hk1 hb1 hS hd KK hK
            have d12 : x12 = .bool false := hd 12 (by kernel_rfl)
            have d23 : x23 = .bool false := hd 23 (by kernel_rfl)
            clear hd
            subst d12
            subst d23
            simp only [Act.put, List.setIfInBounds_toArray, List.set_cons_zero, List.set_cons_succ] at hK
            go_simp
            first | exact hK.out _ _ trivial hS rfl | (have hk := hK.out _ _ trivial hS rfl; revert hk; go_simp)
          case io4c1x25 =>
            intro k1 w1 hk0 hk1 hb1 hS hd KK hK
            have d24 : x24 = .bool false := hd 24 (by kernel_rfl)
            clear hd
            subst d24
            simp only [Act.put, List.setIfInBounds_toArray, List.set_cons_zero, List.set_cons_succ] at hK
            go_simp
            first | exact hK.out _ _ trivial hS rfl | (have hk := hK.out _ _ trivial hS rfl; revert hk; go_simp)
          case io4c1x26 =>
            intro k1 w1 hk0 hk1 hb1 hS hd KK hK
            have d24 : x24 = .bool false := hd 24 (by kernel_rfl)
            clear hd
            subst d24
            simp only [Act.put, List.setIfInBounds_toArray, List.set_cons_zero, List.set_cons_succ] at hK
            go_simp
            first | exact hK.out _ _ trivial hS rfl | (have hk := hK.out _ _ trivial hS rfl; revert hk; go_simp)
          case io4c1x27 =>
            intro k1 w1 hk0 hk1 hb1 hS hd KK hK
            have d24 : x24 = .bool false := hd 24 (by kernel_rfl)
            clear hd
            subst d24
            simp only [Act.put, List.setIfInBounds_toArray, List.set_cons_zero, List.set_cons_succ] at hK
            go_simp
            first | exact hK.out _ _ trivial hS rfl | (have hk := hK.out _ _ trivial hS rfl; revert hk; go_simp)
          case io4c1x28 =>
            intro k1 w1 hk0 hk1 hb1 hS hd KK hK
            have d24 : x24 = .bool false := hd 24 (by kernel_rfl)
            have d26 : x26 = undef := hd 26 (by kernel_rfl)
            have d27 : x27 = undef := hd 27 (by kernel_rfl)
            clear hd
            subst d24
            subst d26
            subst d27
            simp only [Act.put, List.setIfInBounds_toArray, List.set_cons_zero, List.set_cons_succ] at hK
            go_simp
            first | exact hK.out _ _ trivial hS rfl | (have hk := hK.out _ _ trivial hS rfl; revert hk; go_simp)
          case io4c1x29 =>
            intro k1 w1 hk0 hk1 hb1 hS hd KK hK
            have d24 : x24 = .bool false := hd 24 (by kernel_rfl)
            have d28 : x28 = undef := hd 28 (by kernel_rfl)
            clear hd
            subst d24
            subst d28
            simp only [Act.put, List.setIfInBounds_toArray, List.set_cons_zero, List.set_cons_succ] at hK
            go_simp
            first | exact hK.out _ _ trivial hS rfl | (have hk := hK.out _ _ trivial hS rfl; revert hk; go_simp)
          case io4c1x30 =>
            intro k1 w1 hk0 hk1 hb1 hS hd KK hK
            have d24 : x24 = .bool false := hd 24 (by kernel_rfl)
            have d29 : x29 = undef := hd 29 (by kernel_rfl)
            clear hd
            subst d24
            subst d29
            simp only [Act.put, List.setIfInBounds_toArray, List.set_cons_zero, List.set_cons_succ] at hK
            go_simp
            first | exact hK.out _ _ trivial hS rfl | (have hk := hK.out _ _ trivial hS rfl; revert hk; go_simp)
          case io4c1x31 =>
            intro k1 w1 hk0 hk1 hb1 hS hd KK hK
            have d24 : x24 = .bool false := hd 24 (by kernel_rfl)
            clear hd
            subst d24
            simp only [Act.put, List.setIfInBounds_toArray, List.set_cons_zero, List.set_cons_succ] at hK
            go_simp
            first | exact hK.out _ _ trivial hS rfl | (have hk := hK.out _ _ trivial hS rfl; revert hk; go_simp)
          case io4c1x32 =>
            intro k1 w1 hk0 hk1 hb1 hS hd KK hK
            have d24 : x24 = .bool false := hd 24 (by kernel_rfl)
            clear hd
            subst d24
            simp only [Act.put, List.setIfInBounds_toArray, List.set_cons_zero, List.set_cons_succ] at hK
            go_simp
            first | exact hK.out _ _ trivial hS rfl | (have hk := hK.out _ _ trivial hS rfl; revert hk; go_simp)
          case io4c1x33 =>
            intro k1 w1 hk0 hk1 hb1 hS hd KK hK
            have d24 : x24 = .bool false := hd 24 (by kernel_rfl)
            have d31 : x31 = undef := hd 31 (by kernel_rfl)
            have d32 : x32 = undef := hd 32 (by kernel_rfl)
            clear hd
            subst d24
            subst d31
            subst d32
            simp only [Act.put, List.setIfInBounds_toArray, List.set_cons_zero, List.set_cons_succ] at hK
            go_simp
            first | exact hK.out _ _ trivial hS rfl | (have hk := hK.out _ _ trivial hS rfl; revert hk; go_simp)
          case io4c1x34 =>
            intro k1 w1 hk0 hk1 hb1 hS hd KK hK
            have d24 : x24 = .bool false := hd 24 (by kernel_rfl)
            have d33 : x33 = undef := hd 33 (by kernel_rfl)
            clear hd
            subst d24
            subst d33
            simp only [Act.put, List.setIfInBounds_toArray, List.set_cons_zero, List.set_cons_succ] at hK
            go_simp
            first | exact hK.out _ _ trivial hS rfl | (have hk := hK.out _ _ trivial hS rfl; revert hk; go_simp)
          case io4c1x35 =>
            intro k1 w1 hk0 hk1 hb1 hS hd KK hK
            have d24 : x24 = .bool false := hd 24 (by kernel_rfl)
            have d34 : x34 = undef := hd 34 (by kernel_rfl)
            clear hd
            subst d24
            subst d34
            simp only [Act.put, List.setIfInBounds_toArray, List.set_cons_zero, List.set_cons_succ] at hK
            go_simp
            first | exact hK.out _ _ trivial hS rfl | (have hk := hK.out _ _ trivial hS rfl; revert hk; go_simp)
          case io4c1x36 =>
            intro k1 w1 hk0 hk1 hb1 hS hd KK hK
            have d24 : x24 = .bool false := hd 24 (by kernel_rfl)
            have d30 : x30 = undef := hd 30 (by kernel_rfl)
            have d35 : x35 = undef := hd 35 (by kernel_rfl)
            clear hd
            subst d24
            subst d30
            subst d35
            simp only [Act.put, List.setIfInBounds_toArray, List.set_cons_zero, List.set_cons_succ] at hK
            go_simp
            first | exact hK.out _ _ trivial hS rfl | (have hk := hK.out _ _ trivial hS rfl; revert hk; go_simp)
          case io4c1x37 =>
            intro k1 w1 hk0 hk1 hb1 hS hd KK hK
            have d24 : x24 = .bool false := hd 24 (by kernel_rfl)
            have d25 : x25 = undef := hd 25 (by kernel_rfl)
            have d36 : x36 = undef := hd 36 (by kernel_rfl)
            clear hd
            subst d24
            subst d25
            subst d36
            simp only [Act.put, List.setIfInBounds_toArray, List.set_cons_zero, List.set_cons_succ] at hK
            go_simp
            first | exact hK.out _ _ trivial hS rfl | (have hk := hK.out _ _ trivial hS rfl; revert hk; go_simp)
          case io4c1x38 =>
            intro k1 w1 hk0 hk1 hb1 hS hd KK hK
            have d24 : x24 = .bool false := hd 24 (by kernel_rfl)
            have d37 : x37 = undef := hd 37 (by kernel_rfl)
            clear hd
            subst d24
            subst d37
            simp only [Act.put, List.setIfInBounds_toArray, List.set_cons_zero, List.set_cons_succ] at hK
            go_simp
            first | exact hK.out _ _ trivial hS rfl | (have hk := hK.out _ _ trivial hS rfl; revert hk; go_simp)
          case iend4c1 =>
            intro w1 hb1 hS hR
            have d0 : x0 = .slice (some ⟨bd, od, none⟩) n cd := hR 0 (by decide)
            have d1 : x1 = .int .i64 (k : Int) := hR 1 (by decide)
            have d2 : x2 = .pointer (some ⟨bd, od + k, none⟩) := hR 2 (by decide)
            have d3 : x3 = .bool true := hR 3 (by decide)
            have d4 : x4 = .bool true := hR 4 (by decide)
            have d5 : x5 = .slice (some ⟨b, o, none⟩) n c := hR 5 (by decide)
            have d6 : x6 = .int .i64 (k : Int) := hR 6 (by decide)
            have d7 : x7 = .pointer (some ⟨b, o + k * 4, none⟩) := hR 7 (by decide)
            have d8 : x8 = .agg #[.int .i64 z1, .int .i64 z2, .int .i64 z3, .int .i64 z4] := hR 8 (by decide)
            have d9 : x9 = .agg #[.int .i64 y1, .int .i64 y2, .int .i64 y3, .int .i64 y4] := hR 9 (by decide)
            have d10 : x10 = .bool false := hR 10 (by decide)
            have d11 : x11 = .bool false := hR 11 (by decide)
            have d12 : x12 = .bool false := hR 12 (by decide)
            have d13 : x13 = undef := hR 13 (by decide)
            have d14 : x14 = undef := hR 14 (by decide)
            have d15 : x15 = undef := hR 15 (by decide)
            have d16 : x16 = undef := hR 16 (by decide)
            have d17 : x17 = undef := hR 17 (by decide)
            have d18 : x18 = undef := hR 18 (by decide)
            have d19 : x19 = undef := hR 19 (by decide)
            have d20 : x20 = undef := hR 20 (by decide)
            have d21 : x21 = undef := hR 21 (by decide)
            have d22 : x22 = undef := hR 22 (by decide)
            have d23 : x23 = .bool false := hR 23 (by decide)
            have d24 : x24 = .bool false := hR 24 (by decide)
            have d25 : x25 = undef := hR 25 (by decide)
            have d26 : x26 = undef := hR 26 (by decide)
            have d27 : x27 = undef := hR 27 (by decide)
            have d28 : x28 = undef := hR 28 (by decide)
            have d29 : x29 = undef := hR 29 (by decide)
            have d30 : x30 = undef := hR 30 (by decide)
            have d31 : x31 = undef := hR 31 (by decide)
            have d32 : x32 = undef := hR 32 (by decide)
            have d33 : x33 = undef := hR 33 (by decide)
            have d34 : x34 = undef := hR 34 (by decide)
            have d35 : x35 = undef := hR 35 (by decide)
            have d36 : x36 = undef := hR 36 (by decide)
            have d37 : x37 = undef := hR 37 (by decide)
            have d38 : x38 = .bool false := hR 38 (by decide)
            clear hR
            subst d0
            subst d1
            subst d2
            subst d3
            subst d4
            subst d5
            subst d6
            subst d7
            subst d8
            subst d9
            subst d10
            subst d11
            subst d12
            subst d13
            subst d14
            subst d15
            subst d16
            subst d17
            subst d18
            subst d19
            subst d20
            subst d21
            subst d22
            subst d23
            subst d24
            subst d25
            subst d26
            subst d27
            subst d28
            subst d29
            subst d30
            subst d31
            subst d32
            subst d33
            subst d34
            subst d35
            subst d36
            subst d37
            subst d38
            try simp only [putAll, Act.put, List.setIfInBounds_toArray, List.set_cons_zero, List.set_cons_succ]
            have F3 := Lib.hid hS
            clear hS hb1 F2
            have HA2 : Hid (FreeD P D (k + 1) ⟨y1, y2, y3, y4⟩ p) := Lib.hid (HDEF.out.2 ⟨HA.out, fun _ h => by cases h⟩)
            go_wp2
            go_roundw
            case rel => exact ⟨k + 1, by first | rfl | go_num, by omega, HA2, F3⟩
            case measure => (simp only [intOf]; omega)
        | true =>
          by_cases hc1 : z4 < p + y3
          · skip
            by_cases hc2 : p < z4 + z3
            · skip
              refine wp_region_inv (w := wo) 39 (fun _ _ => True) (fun _ W => Fr w.heap.size w W [(w.heap.size, [.int .i64 y1, .int .i64 y2, .int .i64 y3, .int .i64 y4])] [] [] []) [] [(fun u _ => u = .slice (some ⟨bd, od, none⟩) n cd), (fun u _ => u = .int .i64 (k : Int)), (fun u _ => u = .pointer (some ⟨bd, od + k, none⟩)), (fun u _ => u = .bool true), (fun u _ => u = .bool true), (fun u _ => u = .slice (some ⟨b, o, none⟩) n c), (fun u _ => u = .int .i64 (k : Int)), (fun u _ => u = .pointer (some ⟨b, o + k * 4, none⟩)), (fun u _ => u = .agg #[.int .i64 z1, .int .i64 z2, .int .i64 z3, .int .i64 z4]), (fun u _ => u = .agg #[.int .i64 y1, .int .i64 y2, .int .i64 y3, .int .i64 y4]), (fun u _ => u = .bool true), (fun u _ => u = .bool true), (fun u _ => u = .bool true), (fun u _ => u = .slice (some ⟨b, o, none⟩) n c), (fun u _ => u = .int .i64 (k : Int)), (fun u _ => u = .pointer (some ⟨b, o + k * 4, none⟩)), (fun u _ => u = .pointer (some ⟨b, o + k * 4 + 3, none⟩)), (fun u _ => u = .int .i64 z4), (fun u _ => u = .int .i64 p), (fun u _ => u = .pointer (some ⟨w.heap.size, 2, none⟩)), (fun u _ => u = .int .i64 y3), (fun u _ => u = .int .i64 (p + y3)), (fun u _ => u = .bool true), (fun u _ => u = .bool true), (fun u _ => u = .bool true), (fun u _ => u = .int .i64 p), (fun u _ => u = .slice (some ⟨b, o, none⟩) n c), (fun u _ => u = .int .i64 (k : Int)), (fun u _ => u = .pointer (some ⟨b, o + k * 4, none⟩)), (fun u _ => u = .pointer (some ⟨b, o + k * 4 + 3, none⟩)), (fun u _ => u = .int .i64 z4), (fun u _ => u = .slice (some ⟨b, o, none⟩) n c), (fun u _ => u = .int .i64 (k : Int)), (fun u _ => u = .pointer (some ⟨b, o + k * 4, none⟩)), (fun u _ => u = .pointer (some ⟨b, o + k * 4 + 2, none⟩)), (fun u _ => u = .int .i64 z3), (fun u _ => u = .int .i64 (z4 + z3)), (fun u _ => u = .bool true), (fun u _ => u = .bool true)] [some 16, some 17, some 18, some 19, some 20, some 21, some 22, some 23, some 24, some 25, some 26, some 27, some 28, some 29, some 30, some 31, some 32, some 33, some 34, some 35, some 36, some 37, some 38, some 39, some 40, some 41, some 42, some 43, some 44, some 45, some 46, some 47, some 48, some 49, some 50, some 51, some 52, some 53, some 54] (by kernel_rfl) (by kernel_rfl) rfl (by kernel_rfl) (by kernel_rfl) (by decide) (by decide) (fun _ _ => trivial) trivial F2.out.drew (BorneAll.at (.cons (borne_eq _) (.cons (borne_eq _) (.cons (borne_eq _) (.cons (borne_eq _) (.cons (borne_eq _) (.cons (borne_eq _) (.cons (borne_eq _) (.cons (borne_eq _) (.cons (borne_eq _) (.cons (borne_eq _) (.cons (borne_eq _) (.cons (borne_eq _) (.cons (borne_eq _) (.cons (borne_eq _) (.cons (borne_eq _) (.cons (borne_eq _) (.cons (borne_eq _) (.cons (borne_eq _) (.cons (borne_eq _) (.cons (borne_eq _) (.cons (borne_eq _) (.cons (borne_eq _) (.cons (borne_eq _) (.cons (borne_eq _) (.cons (borne_eq _) (.cons (borne_eq _) (.cons (borne_eq _) (.cons (borne_eq _) (.cons (borne_eq _) (.cons (borne_eq _) (.cons (borne_eq _) (.cons (borne_eq _) (.cons (borne_eq _) (.cons (borne_eq _) (.cons (borne_eq _) (.cons (borne_eq _) (.cons (borne_eq _) (.cons (borne_eq _) (.cons (borne_eq _) .nil)))))))))))))))))))))))))))))))))))))))) (fun vs b hvl hvb => ?_)
              obtain ⟨x0, x1, x2, x3, x4, x5, x6, x7, x8, x9, x10, x11, x12, x13, x14, x15, x16, x17, x18, x19, x20, x21, x22, x23, x24, x25, x26, x27, x28, x29, x30, x31, x32, x33, x34, x35, x36, x37, x38, rfl⟩ : ∃ x0 x1 x2 x3 x4 x5 x6 x7 x8 x9 x10 x11 x12 x13 x14 x15 x16 x17 x18 x19 x20 x21 x22 x23 x24 x25 x26 x27 x28 x29 x30 x31 x32 x33 x34 x35 x36 x37 x38, vs = [x0, x1, x2, x3, x4, x5, x6, x7, x8, x9, x10, x11, x12, x13, x14, x15, x16, x17, x18, x19, x20, x21, x22, x23, x24, x25, x26, x27, x28, x29, x30, x31, x32, x33, x34, x35, x36, x37, x38] := lc39 hvl
              clear hvl
              simp only [putAll, Act.put, List.setIfInBounds_toArray, List.set_cons_zero, List.set_cons_succ] at hvb
              subst hvb
              refine ⟨(.snoc (.snoc (.snoc (.snoc (.snoc (.snoc (.snoc (.snoc (.snoc (.snoc (.snoc (.snoc (.snoc (.snoc (.snoc (.snoc (.snoc (.snoc (.snoc (.snoc (.snoc (.snoc (.snoc (.snoc (.snoc (.snoc (.snoc (.snoc (.snoc (.snoc (.snoc (.snoc (.snoc (.snoc (.snoc (.snoc (.snoc (.snoc (.snoc .zero (InvOb.intro (d := (some 16)) (r := fun u _ => u = .slice (some ⟨bd, od, none⟩) n cd) 0 0 rfl rfl rfl (by kernel_rfl) (by kernel_rfl) rfl ?io4c4x0)) (InvOb.intro (d := (some 17)) (r := fun u _ => u = .int .i64 (k : Int)) 0 0 rfl rfl rfl (by kernel_rfl) (by kernel_rfl) rfl ?io4c4x1)) (InvOb.intro (d := (some 18)) (r := fun u _ => u = .pointer (some ⟨bd, od + k, none⟩)) 0 0 rfl rfl rfl (by kernel_rfl) (by kernel_rfl) rfl ?io4c4x2)) (InvOb.intro (d := (some 19)) (r := fun u _ => u = .bool true) 0 0 rfl rfl rfl (by kernel_rfl) (by kernel_rfl) rfl ?io4c4x3)) (InvOb.intro (d := (some 20)) (r := fun u _ => u = .bool true) 0 0 rfl rfl rfl (by kernel_rfl) (by kernel_rfl) rfl ?io4c4x4)) (InvOb.intro (d := (some 21)) (r := fun u _ => u = .slice (some ⟨b, o, none⟩) n c) 0 0 rfl rfl rfl (by kernel_rfl) (by kernel_rfl) rfl ?io4c4x5)) (InvOb.intro (d := (some 22)) (r := fun u _ => u = .int .i64 (k : Int)) 0 0 rfl rfl rfl (by kernel_rfl) (by kernel_rfl) rfl ?io4c4x6)) (InvOb.intro (d := (some 23)) (r := fun u _ => u = .pointer (some ⟨b, o + k * 4, none⟩)) 0 0 rfl rfl rfl (by kernel_rfl) (by kernel_rfl) rfl ?io4c4x7)) (InvOb.intro (d := (some 24)) (r := fun u _ => u = .agg #[.int .i64 z1, .int .i64 z2, .int .i64 z3, .int .i64 z4]) 0 0 rfl rfl rfl (by kernel_rfl) (by kernel_rfl) rfl ?io4c4x8)) (InvOb.intro (d := (some 25)) (r := fun u _ => u = .agg #[.int .i64 y1, .int .i64 y2, .int .i64 y3, .int .i64 y4]) 0 0 rfl rfl rfl (by kernel_rfl) (by kernel_rfl) rfl ?io4c4x9)) (InvOb.intro (d := (some 26)) (r := fun u _ => u = .bool true) 0 0 rfl rfl rfl (by kernel_rfl) (by kernel_rfl) rfl ?io4c4x10)) (InvOb.intro (d := (some 27)) (r := fun u _ => u = .bool true) 0 0 rfl rfl rfl (by kernel_rfl) (by kernel_rfl) rfl ?io4c4x11)) (InvOb.intro (d := (some 28)) (r := fun u _ => u = .bool true) 0 0 rfl rfl rfl (by kernel_rfl) (by kernel_rfl) rfl ?io4c4x12)) (InvOb.intro (d := (some 29)) (r := fun u _ => u = .slice (some ⟨b, o, none⟩) n c) 0 0 rfl rfl rfl (by kernel_rfl) (by kernel_rfl) rfl ?io4c4x13)) (InvOb.intro (d := (some 30)) (r := fun u _ => u = .int .i64 (k : Int)) 0 0 rfl rfl rfl (by kernel_rfl) (by kernel_rfl) rfl ?io4c4x14)) (InvOb.intro (d := (some 31)) (r := fun u _ => u = .pointer (some ⟨b, o + k * 4, none⟩)) 0 0 rfl rfl rfl (by kernel_rfl) (by kernel_rfl) rfl ?io4c4x15)) (InvOb.intro (d := (some 32)) (r := fun u _ => u = .pointer (some ⟨b, o + k * 4 + 3, none⟩)) 0 0 rfl rfl rfl (by kernel_rfl) (by kernel_rfl) rfl ?io4c4x16)) (InvOb.intro (d := (some 33)) (r := fun u _ => u = .int .i64 z4) 0 0 rfl rfl rfl (by kernel_rfl) (by kernel_rfl) rfl ?io4c4x17)) (InvOb.intro (d := (some 34)) (r := fun u _ => u = .int .i64 p) 0 0 rfl rfl rfl (by kernel_rfl) (by kernel_rfl) rfl ?io4c4x18)) (InvOb.intro (d := (some 35)) (r := fun u _ => u = .pointer (some ⟨w.heap.size, 2, none⟩)) 0 0 rfl rfl rfl (by kernel_rfl) (by kernel_rfl) rfl ?io4c4x19)) (InvOb.intro (d := (some 36)) (r := fun u _ => u = .int .i64 y3) 0 0 rfl rfl rfl (by kernel_rfl) (by kernel_rfl) rfl ?io4c4x20)) (InvOb.intro (d := (some 37)) (r := fun u _ => u = .int .i64 (p + y3)) 0 0 rfl rfl rfl (by kernel_rfl) (by kernel_rfl) rfl ?io4c4x21)) (InvOb.intro (d := (some 38)) (r := fun u _ => u = .bool true) 0 0 rfl rfl rfl (by kernel_rfl) (by kernel_rfl) rfl ?io4c4x22)) (InvOb.intro (d := (some 39)) (r := fun u _ => u = .bool true) 0 0 rfl rfl rfl (by kernel_rfl) (by kernel_rfl) rfl ?io4c4x23)) (InvOb.intro (d := (some 40)) (r := fun u _ => u = .bool true) 0 0 rfl rfl rfl (by kernel_rfl) (by kernel_rfl) rfl ?io4c4x24)) (InvOb.intro (d := (some 41)) (r := fun u _ => u = .int .i64 p) 0 0 rfl rfl rfl (by kernel_rfl) (by kernel_rfl) rfl ?io4c4x25)) (InvOb.intro (d := (some 42)) (r := fun u _ => u = .slice (some ⟨b, o, none⟩) n c) 0 0 rfl rfl rfl (by kernel_rfl) (by kernel_rfl) rfl ?io4c4x26)) (InvOb.intro (d := (some 43)) (r := fun u _ => u = .int .i64 (k : Int)) 0 0 rfl rfl rfl (by kernel_rfl) (by kernel_rfl) rfl ?io4c4x27)) (InvOb.intro (d := (some 44)) (r := fun u _ => u = .pointer (some ⟨b, o + k * 4, none⟩)) 0 0 rfl rfl rfl (by kernel_rfl) (by kernel_rfl) rfl ?io4c4x28)) (InvOb.intro (d := (some 45)) (r := fun u _ => u = .pointer (some ⟨b, o + k * 4 + 3, none⟩)) 0 0 rfl rfl rfl (by kernel_rfl) (by kernel_rfl) rfl ?io4c4x29)) (InvOb.intro (d := (some 46)) (r := fun u _ => u = .int .i64 z4) 0 0 rfl rfl rfl (by kernel_rfl) (by kernel_rfl) rfl ?io4c4x30)) (InvOb.intro (d := (some 47)) (r := fun u _ => u = .slice (some ⟨b, o, none⟩) n c) 0 0 rfl rfl rfl (by kernel_rfl) (by kernel_rfl) rfl ?io4c4x31)) (InvOb.intro (d := (some 48)) (r := fun u _ => u = .int .i64 (k : Int)) 0 0 rfl rfl rfl (by kernel_rfl) (by kernel_rfl) rfl ?io4c4x32)) (InvOb.intro (d := (some 49)) (r := fun u _ => u = .pointer (some ⟨b, o + k * 4, none⟩)) 0 0 rfl rfl rfl (by kernel_rfl) (by kernel_rfl) rfl ?io4c4x33)) (InvOb.intro (d := (some 50)) (r := fun u _ => u = .pointer (some ⟨b, o + k * 4 + 2, none⟩)) 0 0 rfl rfl rfl (by kernel_rfl) (by kernel_rfl) rfl ?io4c4x34)) (InvOb.intro (d := (some 51)) (r := fun u _ => u = .int .i64 z3) 0 0 rfl rfl rfl (by kernel_rfl) (by kernel_rfl) rfl ?io4c4x35)) (InvOb.intro (d := (some 52)) (r := fun u _ => u = .int .i64 (z4 + z3)) 0 0 rfl rfl rfl (by kernel_rfl) (by kernel_rfl) rfl ?io4c4x36)) (InvOb.intro (d := (some 53)) (r := fun u _ => u = .bool true) 0 0 rfl rfl rfl (by kernel_rfl) (by kernel_rfl) rfl ?io4c4x37)) (InvOb.intro (d := (some 54)) (r := fun u _ => u = .bool true) 0 0 rfl rfl rfl (by kernel_rfl) (by kernel_rfl) rfl ?io4c4x38)), ?iend4c4⟩
              case io4c4x0 =>
                intro k1 w1 hk0 hk1 hb1 hS hd KK hK
                clear hd
                simp only [Act.put, List.setIfInBounds_toArray, List.set_cons_zero, List.set_cons_succ] at hK
                go_simp
                first | exact hK.out _ _ trivial hS rfl | (have hk := hK.out _ _ trivial hS rfl; revert hk; go_simp)
              case io4c4x1 =>
                intro k1 w1 hk0 hk1 hb1 hS hd KK hK
                clear hd
                simp only [Act.put, List.setIfInBounds_toArray, List.set_cons_zero, List.set_cons_succ] at hK
                go_simp
                first | exact hK.out _ _ trivial hS rfl | (have hk := hK.out _ _ trivial hS rfl; revert hk; go_simp)
              case io4c4x2 =>
                intro k1 w1 hk0 hk1 hb1 hS hd KK hK
                have d0 : x0 = .slice (some ⟨bd, od, none⟩) n cd := hd 0 (by kernel_rfl)
                have d1 : x1 = .int .i64 (k : Int) := hd 1 (by kernel_rfl)
                clear hd
                subst d0
                subst d1
                have g1 := hki
                simp only [Act.put, List.setIfInBounds_toArray, List.set_cons_zero, List.set_cons_succ] at hK
                go_simp
                first | exact hK.out _ _ trivial hS rfl | (have hk := hK.out _ _ trivial hS rfl; revert hk; go_simp)
              case io4c4x3 =>
                intro k1 w1 hk0 hk1 hb1 hS hd KK hK
                have d2 : x2 = .pointer (some ⟨bd, od + k, none⟩) := hd 2 (by kernel_rfl)
                clear hd
                subst d2
                obtain ⟨b9, o9, he9, hl9, d0⟩ := (HD.out.below hS.bel (Nat.le_refl _)) k HK.out
                cases he9
                rw [HDK.out] at d0
                simp only [Act.put, List.setIfInBounds_toArray, List.set_cons_zero, List.set_cons_succ] at hK
                go_simp
                first | exact hK.out _ _ trivial hS rfl | (have hk := hK.out _ _ trivial hS rfl; revert hk; go_simp)
              case io4c4x4 =>
                intro k1 w1 hk0 hk1 hb1 hS hd KK hK
                have d3 : x3 = .bool true := hd 3 (by kernel_rfl)
                clear hd
                subst d3
                simp only [Act.put, List.setIfInBounds_toArray, List.set_cons_zero, List.set_cons_succ] at hK
                go_simp
                first | exact hK.out _ _ trivial hS rfl | (have hk := hK.out _ _ trivial hS rfl; revert hk; go_simp)
              case io4c4x5 =>
                intro k1 w1 hk0 hk1 hb1 hS hd KK hK
                have d4 : x4 = .bool true := hd 4 (by kernel_rfl)
                clear hd
                subst d4
                simp only [Act.put, List.setIfInBounds_toArray, List.set_cons_zero, List.set_cons_succ] at hK
                go_simp
                first | exact hK.out _ _ trivial hS rfl | (have hk := hK.out _ _ trivial hS rfl; revert hk; go_simp)
              case io4c4x6 =>
                intro k1 w1 hk0 hk1 hb1 hS hd KK hK
                have d4 : x4 = .bool true := hd 4 (by kernel_rfl)
                clear hd
                subst d4
                simp only [Act.put, List.setIfInBounds_toArray, List.set_cons_zero, List.set_cons_succ] at hK
                go_simp
                first | exact hK.out _ _ trivial hS rfl | (have hk := hK.out _ _ trivial hS rfl; revert hk; go_simp)
              case io4c4x7 =>
                intro k1 w1 hk0 hk1 hb1 hS hd KK hK
                have d4 : x4 = .bool true := hd 4 (by kernel_rfl)
                have d5 : x5 = .slice (some ⟨b, o, none⟩) n c := hd 5 (by kernel_rfl)
                have d6 : x6 = .int .i64 (k : Int) := hd 6 (by kernel_rfl)
                clear hd
                subst d4
                subst d5
                subst d6
                have g1 := hki
                simp only [Act.put, List.setIfInBounds_toArray, List.set_cons_zero, List.set_cons_succ] at hK
                go_simp
                first | exact hK.out _ _ trivial hS rfl | (have hk := hK.out _ _ trivial hS rfl; revert hk; go_simp)
              case io4c4x8 =>
                intro k1 w1 hk0 hk1 hb1 hS hd KK hK
                have d4 : x4 = .bool true := hd 4 (by kernel_rfl)
                have d7 : x7 = .pointer (some ⟨b, o + k * 4, none⟩) := hd 7 (by kernel_rfl)
                clear hd
                subst d4
                subst d7
                obtain ⟨b9, o9, he9, hl9, d0, d1, d2, d3⟩ := (HL.out.below hS.bel (Nat.le_refl _)).four HK.out
                cases he9
                rw [HX.out] at d0 d1 d2 d3
                simp only [Act.put, List.setIfInBounds_toArray, List.set_cons_zero, List.set_cons_succ] at hK
                go_simp
                first | exact hK.out _ _ trivial hS rfl | (have hk := hK.out _ _ trivial hS rfl; revert hk; go_simp)
              case io4c4x9 =>
                intro k1 w1 hk0 hk1 hb1 hS hd KK hK
                have d4 : x4 = .bool true := hd 4 (by kernel_rfl)
                clear hd
                subst d4
                have k0 := hS.c 0 0 rfl rfl
                have k1 := hS.c 0 1 rfl rfl
                have k2 := hS.c 0 2 rfl rfl
                have k3 := hS.c 0 3 rfl rfl
                simp only [Act.put, List.setIfInBounds_toArray, List.set_cons_zero, List.set_cons_succ] at hK
                go_simp
                first | exact hK.out _ _ trivial hS rfl | (have hk := hK.out _ _ trivial hS rfl; revert hk; go_simp)
              case io4c4x10 =>
                intro k1 w1 hk0 hk1 hb1 hS hd KK hK
                have d4 : x4 = .bool true := hd 4 (by kernel_rfl)
                have d8 : x8 = .agg #[.int .i64 z1, .int .i64 z2, .int .i64 z3, .int .i64 z4] := hd 8 (by kernel_rfl)
                have d9 : x9 = .agg #[.int .i64 y1, .int .i64 y2, .int .i64 y3, .int .i64 y4] := hd 9 (by kernel_rfl)
                clear hd
                subst d4
                subst d8
                subst d9
                simp only [Act.put, List.setIfInBounds_toArray, List.set_cons_zero, List.set_cons_succ] at hK
                go_simp
                go_at_call 12
                refine (HME.out w1).mono ?_
                rintro e w2 ⟨rfl, hb⟩
                (try go_wp2_with fail)
                first | exact hK.out _ _ trivial (hS.next hb) rfl | (have hk := hK.out _ _ trivial (hS.next hb) rfl; revert hk; go_simp)
              case io4c4x11 =>
                intro k1 w1 hk0 hk1 hb1 hS hd KK hK
                have d4 : x4 = .bool true := hd 4 (by kernel_rfl)
                have d10 : x10 = .bool true := hd 10 (by kernel_rfl)
                clear hd
                subst d4
                subst d10
                simp only [Act.put, List.setIfInBounds_toArray, List.set_cons_zero, List.set_cons_succ] at hK
                go_simp
                first | exact hK.out _ _ trivial hS rfl | (have hk := hK.out _ _ trivial hS rfl; revert hk; go_simp)
              case io4c4x12 =>
                intro k1 w1 hk0 hk1 hb1 hS hd KK hK
                have d10 : x10 = .bool true := hd 10 (by kernel_rfl)
                have d11 : x11 = .bool true := hd 11 (by kernel_rfl)
                clear hd
                subst d10
                subst d11
                simp only [Act.put, List.setIfInBounds_toArray, List.set_cons_zero, List.set_cons_succ] at hK
                go_simp
                first | exact hK.out _ _ trivial hS rfl | (have hk := hK.out _ _ trivial hS rfl; revert hk; go_simp)
              case io4c4x13 =>
                intro k1 w1 hk0 hk1 hb1 hS hd KK hK
                have d12 : x12 = .bool true := hd 12 (by kernel_rfl)
                clear hd
                subst d12
                simp only [Act.put, List.setIfInBounds_toArray, List.set_cons_zero, List.set_cons_succ] at hK
                go_simp
                first | exact hK.out _ _ trivial hS rfl | (have hk := hK.out _ _ trivial hS rfl; revert hk; go_simp)
              case io4c4x14 =>
                intro k1 w1 hk0 hk1 hb1 hS hd KK hK
                have d12 : x12 = .bool true := hd 12 (by kernel_rfl)
                clear hd
                subst d12
                simp only [Act.put, List.setIfInBounds_toArray, List.set_cons_zero, List.set_cons_succ] at hK
                go_simp
                first | exact hK.out _ _ trivial hS rfl | (have hk := hK.out _ _ trivial hS rfl; revert hk; go_simp)
              case io4c4x15 =>
                intro k1 w1 hk0 hk1 hb1 hS hd KK hK
                have d12 : x12 = .bool true := hd 12 (by kernel_rfl)
                have d13 : x13 = .slice (some ⟨b, o, none⟩) n c := hd 13 (by kernel_rfl)
                have d14 : x14 = .int .i64 (k : Int) := hd 14 (by kernel_rfl)
                clear hd
                subst d12
                subst d13
                subst d14
                have g1 := hki
                simp only [Act.put, List.setIfInBounds_toArray, List.set_cons_zero, List.set_cons_succ] at hK
                go_simp
                first | exact hK.out _ _ trivial hS rfl | (have hk := hK.out _ _ trivial hS rfl; revert hk; go_simp)
              case io4c4x16 =>
                intro k1 w1 hk0 hk1 hb1 hS hd KK hK
                have d12 : x12 = .bool true := hd 12 (by kernel_rfl)
                have d15 : x15 = .pointer (some ⟨b, o + k * 4, none⟩) := hd 15 (by kernel_rfl)
                clear hd
                subst d12
                subst d15
                simp only [Act.put, List.setIfInBounds_toArray, List.set_cons_zero, List.set_cons_succ] at hK
                go_simp
                first | exact hK.out _ _ trivial hS rfl | (have hk := hK.out _ _ trivial hS rfl; revert hk; go_simp)
              case io4c4x17 =>
                intro k1 w1 hk0 hk1 hb1 hS hd KK hK
                have d12 : x12 = .bool true := hd 12 (by kernel_rfl)
                have d16 : x16 = .pointer (some ⟨b, o + k * 4 + 3, none⟩) := hd 16 (by kernel_rfl)
                clear hd
                subst d12
                subst d16
                obtain ⟨b9, o9, he9, hl9, d0, d1, d2, d3⟩ := (HL.out.below hS.bel (Nat.le_refl _)).four HK.out
                cases he9
                rw [HX.out] at d0 d1 d2 d3
                simp only [Act.put, List.setIfInBounds_toArray, List.set_cons_zero, List.set_cons_succ] at hK
                go_simp
                first | exact hK.out _ _ trivial hS rfl | (have hk := hK.out _ _ trivial hS rfl; revert hk; go_simp)
              case io4c4x18 =>
                intro k1 w1 hk0 hk1 hb1 hS hd KK hK
                have d12 : x12 = .bool true := hd 12 (by kernel_rfl)
                clear hd
                subst d12
                simp only [Act.put, List.setIfInBounds_toArray, List.set_cons_zero, List.set_cons_succ] at hK
                go_simp
                first | exact hK.out _ _ trivial hS rfl | (have hk := hK.out _ _ trivial hS rfl; revert hk; go_simp)
              case io4c4x19 =>
                intro k1 w1 hk0 hk1 hb1 hS hd KK hK
                have d12 : x12 = .bool true := hd 12 (by kernel_rfl)
                clear hd
                subst d12
                simp only [Act.put, List.setIfInBounds_toArray, List.set_cons_zero, List.set_cons_succ] at hK
                go_simp
                first | exact hK.out _ _ trivial hS rfl | (have hk := hK.out _ _ trivial hS rfl; revert hk; go_simp)
              case io4c4x20 =>
                intro k1 w1 hk0 hk1 hb1 hS hd KK hK
                have d12 : x12 = .bool true := hd 12 (by kernel_rfl)
                have d19 : x19 = .pointer (some ⟨w.heap.size, 2, none⟩) := hd 19 (by kernel_rfl)
                clear hd
                subst d12
                subst d19
                have k0 := hS.c 0 0 rfl rfl
                have k1 := hS.c 0 1 rfl rfl
                have k2 := hS.c 0 2 rfl rfl
                have k3 := hS.c 0 3 rfl rfl
                simp only [Act.put, List.setIfInBounds_toArray, List.set_cons_zero, List.set_cons_succ] at hK
                go_simp
                first | exact hK.out _ _ trivial hS rfl | (have hk := hK.out _ _ trivial hS rfl; revert hk; go_simp)
              case io4c4x21 =>
                intro k1 w1 hk0 hk1 hb1 hS hd KK hK
                have d12 : x12 = .bool true := hd 12 (by kernel_rfl)
                have d18 : x18 = .int .i64 p := hd 18 (by kernel_rfl)
                have d20 : x20 = .int .i64 y3 := hd 20 (by kernel_rfl)
                clear hd
                subst d12
                subst d18
                subst d20
                have dx := HW1.out
                simp only [Act.put, List.setIfInBounds_toArray, List.set_cons_zero, List.set_cons_succ] at hK
                go_simp
                first | exact hK.out _ _ trivial hS rfl | (have hk := hK.out _ _ trivial hS rfl; revert hk; go_simp)
              case io4c4x22 =>
                intro k1 w1 hk0 hk1 hb1 hS hd KK hK
                have d12 : x12 = .bool true := hd 12 (by kernel_rfl)
                have d17 : x17 = .int .i64 z4 := hd 17 (by kernel_rfl)
                have d21 : x21 = .int .i64 (p + y3) := hd 21 (by kernel_rfl)
                clear hd
                subst d12
                subst d17
                subst d21
                have g2 := hc1
                simp only [Act.put, List.setIfInBounds_toArray, List.set_cons_zero, List.set_cons_succ] at hK
                go_simp
                first | exact hK.out _ _ trivial hS rfl | (have hk := hK.out _ _ trivial hS rfl; revert hk; go_simp)
              case io4c4x23 =>
                intro k1 w1 hk0 hk1 hb1 hS hd KK hK
                have d12 : x12 = .bool true := hd 12 (by kernel_rfl)
                have d22 : x22 = .bool true := hd 22 (by kernel_rfl)
                clear hd
                subst d12
                subst d22
                simp only [Act.put, List.setIfInBounds_toArray, List.set_cons_zero, List.set_cons_succ] at hK
                go_simp
                first | exact hK.out _ _ trivial hS rfl | (have hk := hK.out _ _ trivial hS rfl; revert hk; go_simp)
              case io4c4x24 =>
                intro k1 w1 hk0 hk1 hb1 hS hd KK hK
                have d12 : x12 = .bool true := hd 12 (by kernel_rfl)
                have d23 : x23 = .bool true := hd 23 (by kernel_rfl)
                clear hd
                subst d12
                subst d23
                simp only [Act.put, List.setIfInBounds_toArray, List.set_cons_zero, List.set_cons_succ] at hK
                go_simp
                first | exact hK.out _ _ trivial hS rfl | (have hk := hK.out _ _ trivial hS rfl; revert hk; go_simp)
              case io4c4x25 =>
                intro k1 w1 hk0 hk1 hb1 hS hd KK hK
                have d24 : x24 = .bool true := hd 24 (by kernel_rfl)
                clear hd
                subst d24
                simp only [Act.put, List.setIfInBounds_toArray, List.set_cons_zero, List.set_cons_succ] at hK
                go_simp
                first | exact hK.out _ _ trivial hS rfl | (have hk := hK.out _ _ trivial hS rfl; revert hk; go_simp)
              case io4c4x26 =>
                intro k1 w1 hk0 hk1 hb1 hS hd KK hK
                have d24 : x24 = .bool true := hd 24 (by kernel_rfl)
                clear hd
                subst d24
                simp only [Act.put, List.setIfInBounds_toArray, List.set_cons_zero, List.set_cons_succ] at hK
                go_simp
                first | exact hK.out _ _ trivial hS rfl | (have hk := hK.out _ _ trivial hS rfl; revert hk; go_simp)
              case io4c4x27 =>
                intro k1 w1 hk0 hk1 hb1 hS hd KK hK
                have d24 : x24 = .bool true := hd 24 (by kernel_rfl)
                clear hd
                subst d24
                simp only [Act.put, List.setIfInBounds_toArray, List.set_cons_zero, List.set_cons_succ] at hK
                go_simp
                first | exact hK.out _ _ trivial hS rfl | (have hk := hK.out _ _ trivial hS rfl; revert hk; go_simp)
              case io4c4x28 =>
                intro k1 w1 hk0 hk1 hb1 hS hd KK hK
                have d24 : x24 = .bool true := hd 24 (by kernel_rfl)
                have d26 : x26 = .slice (some ⟨b, o, none⟩) n c := hd 26 (by kernel_rfl)
                have d27 : x27 = .int .i64 (k : Int) := hd 27 (by kernel_rfl)
                clear hd
                subst d24
                subst d26
                subst d27
                have g1 := hki
                simp only [Act.put, List.setIfInBounds_toArray, List.set_cons_zero, List.set_cons_succ] at hK
                go_simp
                first | exact hK.out _ _ trivial hS rfl | (have hk := hK.out _ _ trivial hS rfl; revert hk; go_simp)
              case io4c4x29 =>
                intro k1 w1 hk0 hk1 hb1 hS hd KK hK
                have d24 : x24 = .bool true := hd 24 (by kernel_rfl)
                have d28 : x28 = .pointer (some ⟨b, o + k * 4, none⟩) := hd 28 (by kernel_rfl)
                clear hd
                subst d24
                subst d28
                simp only [Act.put, List.setIfInBounds_toArray, List.set_cons_zero, List.set_cons_succ] at hK
                go_simp
                first | exact hK.out _ _ trivial hS rfl | (have hk := hK.out _ _ trivial hS rfl; revert hk; go_simp)
              case io4c4x30 =>
                intro k1 w1 hk0 hk1 hb1 hS hd KK hK
                have d24 : x24 = .bool true := hd 24 (by kernel_rfl)
                have d29 : x29 = .pointer (some ⟨b, o + k * 4 + 3, none⟩) := hd 29 (by kernel_rfl)
                clear hd
                subst d24
                subst d29
                obtain ⟨b9, o9, he9, hl9, d0, d1, d2, d3⟩ := (HL.out.below hS.bel (Nat.le_refl _)).four HK.out
                cases he9
                rw [HX.out] at d0 d1 d2 d3
                simp only [Act.put, List.setIfInBounds_toArray, List.set_cons_zero, List.set_cons_succ] at hK
                go_simp
                first | exact hK.out _ _ trivial hS rfl | (have hk := hK.out _ _ trivial hS rfl; revert hk; go_simp)
              case io4c4x31 =>
                intro k1 w1 hk0 hk1 hb1 hS hd KK hK
                have d24 : x24 = .bool true := hd 24 (by kernel_rfl)
                clear hd
                subst d24
                simp only [Act.put, List.setIfInBounds_toArray, List.set_cons_zero, List.set_cons_succ] at hK
                go_simp
                first | exact hK.out _ _ trivial hS rfl | (have hk := hK.out _ _ trivial hS rfl; revert hk; go_simp)
              case io4c4x32 =>
                intro k1 w1 hk0 hk1 hb1 hS hd KK hK
                have d24 : x24 = .bool true := hd 24 (by kernel_rfl)
                clear hd
                subst d24
                simp only [Act.put, List.setIfInBounds_toArray, List.set_cons_zero, List.set_cons_succ] at hK
                go_simp
                first | exact hK.out _ _ trivial hS rfl | (have hk := hK.out _ _ trivial hS rfl; revert hk; go_simp)
              case io4c4x33 =>
                intro k1 w1 hk0 hk1 hb1 hS hd KK hK
                have d24 : x24 = .bool true := hd 24 (by kernel_rfl)
                have d31 : x31 = .slice (some ⟨b, o, none⟩) n c := hd 31 (by kernel_rfl)
                have d32 : x32 = .int .i64 (k : Int) := hd 32 (by kernel_rfl)
                clear hd
                subst d24
                subst d31
                subst d32
                have g1 := hki
                simp only [Act.put, List.setIfInBounds_toArray, List.set_cons_zero, List.set_cons_succ] at hK
                go_simp
                first | exact hK.out _ _ trivial hS rfl | (have hk := hK.out _ _ trivial hS rfl; revert hk; go_simp)
              case io4c4x34 =>
                intro k1 w1 hk0 hk1 hb1 hS hd KK hK
                have d24 : x24 = .bool true := hd 24 (by kernel_rfl)
                have d33 : x33 = .pointer (some ⟨b, o + k * 4, none⟩) := hd 33 (by kernel_rfl)
                clear hd
                subst d24
                subst d33
                simp only [Act.put, List.setIfInBounds_toArray, List.set_cons_zero, List.set_cons_succ] at hK
                go_simp
                first | exact hK.out _ _ trivial hS rfl | (have hk := hK.out _ _ trivial hS rfl; revert hk; go_simp)
              case io4c4x35 =>
                intro k1 w1 hk0 hk1 hb1 hS hd KK hK
                have d24 : x24 = .bool true := hd 24 (by kernel_rfl)
                have d34 : x34 = .pointer (some ⟨b, o + k * 4 + 2, none⟩) := hd 34 (by kernel_rfl)
                clear hd
                subst d24
                subst d34
                obtain ⟨b9, o9, he9, hl9, d0, d1, d2, d3⟩ := (HL.out.below hS.bel (Nat.le_refl _)).four HK.out
                cases he9
                rw [HX.out] at d0 d1 d2 d3
                simp only [Act.put, List.setIfInBounds_toArray, List.set_cons_zero, List.set_cons_succ] at hK
                go_simp
                first | exact hK.out _ _ trivial hS rfl | (have hk := hK.out _ _ trivial hS rfl; revert hk; go_simp)
              case io4c4x36 =>
                intro k1 w1 hk0 hk1 hb1 hS hd KK hK
                have d24 : x24 = .bool true := hd 24 (by kernel_rfl)
                have d30 : x30 = .int .i64 z4 := hd 30 (by kernel_rfl)
                have d35 : x35 = .int .i64 z3 := hd 35 (by kernel_rfl)
                clear hd
                subst d24
                subst d30
                subst d35
                have dx := HW2.out
                simp only [Act.put, List.setIfInBounds_toArray, List.set_cons_zero, List.set_cons_succ] at hK
                go_simp
                first | exact hK.out _ _ trivial hS rfl | (have hk := hK.out _ _ trivial hS rfl; revert hk; go_simp)
              case io4c4x37 =>
                intro k1 w1 hk0 hk1 hb1 hS hd KK hK
                have d24 : x24 = .bool true := hd 24 (by kernel_rfl)
                have d25 : x25 = .int .i64 p := hd 25 (by kernel_rfl)
                have d36 : x36 = .int .i64 (z4 + z3) := hd 36 (by kernel_rfl)
                clear hd
                subst d24
                subst d25
                subst d36
                have g2 := hc2
                simp only [Act.put, List.setIfInBounds_toArray, List.set_cons_zero, List.set_cons_succ] at hK
                go_simp
                first | exact hK.out _ _ trivial hS rfl | (have hk := hK.out _ _ trivial hS rfl; revert hk; go_simp)
              case io4c4x38 =>
                intro k1 w1 hk0 hk1 hb1 hS hd KK hK
                have d24 : x24 = .bool true := hd 24 (by kernel_rfl)
                have d37 : x37 = .bool true := hd 37 (by kernel_rfl)
                clear hd
                subst d24
                subst d37
                simp only [Act.put, List.setIfInBounds_toArray, List.set_cons_zero, List.set_cons_succ] at hK
                go_simp
                first | exact hK.out _ _ trivial hS rfl | (have hk := hK.out _ _ trivial hS rfl; revert hk; go_simp)
              case iend4c4 =>
                intro w1 hb1 hS hR
                have d0 : x0 = .slice (some ⟨bd, od, none⟩) n cd := hR 0 (by decide)
                have d1 : x1 = .int .i64 (k : Int) := hR 1 (by decide)
                have d2 : x2 = .pointer (some ⟨bd, od + k, none⟩) := hR 2 (by decide)
                have d3 : x3 = .bool true := hR 3 (by decide)
                have d4 : x4 = .bool true := hR 4 (by decide)
                have d5 : x5 = .slice (some ⟨b, o, none⟩) n c := hR 5 (by decide)
                have d6 : x6 = .int .i64 (k : Int) := hR 6 (by decide)
                have d7 : x7 = .pointer (some ⟨b, o + k * 4, none⟩) := hR 7 (by decide)
                have d8 : x8 = .agg #[.int .i64 z1, .int .i64 z2, .int .i64 z3, .int .i64 z4] := hR 8 (by decide)
                have d9 : x9 = .agg #[.int .i64 y1, .int .i64 y2, .int .i64 y3, .int .i64 y4] := hR 9 (by decide)
                have d10 : x10 = .bool true := hR 10 (by decide)
                have d11 : x11 = .bool true := hR 11 (by decide)
                have d12 : x12 = .bool true := hR 12 (by decide)
                have d13 : x13 = .slice (some ⟨b, o, none⟩) n c := hR 13 (by decide)
                have d14 : x14 = .int .i64 (k : Int) := hR 14 (by decide)
                have d15 : x15 = .pointer (some ⟨b, o + k * 4, none⟩) := hR 15 (by decide)
                have d16 : x16 = .pointer (some ⟨b, o + k * 4 + 3, none⟩) := hR 16 (by decide)
                have d17 : x17 = .int .i64 z4 := hR 17 (by decide)
                have d18 : x18 = .int .i64 p := hR 18 (by decide)
                have d19 : x19 = .pointer (some ⟨w.heap.size, 2, none⟩) := hR 19 (by decide)
                have d20 : x20 = .int .i64 y3 := hR 20 (by decide)
                have d21 : x21 = .int .i64 (p + y3) := hR 21 (by decide)
                have d22 : x22 = .bool true := hR 22 (by decide)
                have d23 : x23 = .bool true := hR 23 (by decide)
                have d24 : x24 = .bool true := hR 24 (by decide)
                have d25 : x25 = .int .i64 p := hR 25 (by decide)
                have d26 : x26 = .slice (some ⟨b, o, none⟩) n c := hR 26 (by decide)
                have d27 : x27 = .int .i64 (k : Int) := hR 27 (by decide)
                have d28 : x28 = .pointer (some ⟨b, o + k * 4, none⟩) := hR 28 (by decide)
                have d29 : x29 = .pointer (some ⟨b, o + k * 4 + 3, none⟩) := hR 29 (by decide)
                have d30 : x30 = .int .i64 z4 := hR 30 (by decide)
                have d31 : x31 = .slice (some ⟨b, o, none⟩) n c := hR 31 (by decide)
                have d32 : x32 = .int .i64 (k : Int) := hR 32 (by decide)
                have d33 : x33 = .pointer (some ⟨b, o + k * 4, none⟩) := hR 33 (by decide)
                have d34 : x34 = .pointer (some ⟨b, o + k * 4 + 2, none⟩) := hR 34 (by decide)
                have d35 : x35 = .int .i64 z3 := hR 35 (by decide)
                have d36 : x36 = .int .i64 (z4 + z3) := hR 36 (by decide)
                have d37 : x37 = .bool true := hR 37 (by decide)
                have d38 : x38 = .bool true := hR 38 (by decide)
                clear hR
                subst d0
                subst d1
                subst d2
                subst d3
                subst d4
                subst d5
                subst d6
                subst d7
                subst d8
                subst d9
                subst d10
                subst d11
                subst d12
                subst d13
                subst d14
                subst d15
                subst d16
                subst d17
                subst d18
                subst d19
                subst d20
                subst d21
                subst d22
                subst d23
                subst d24
                subst d25
                subst d26
                subst d27
                subst d28
                subst d29
                subst d30
                subst d31
                subst d32
                subst d33
                subst d34
                subst d35
                subst d36
                subst d37
                subst d38
                try simp only [putAll, Act.put, List.setIfInBounds_toArray, List.set_cons_zero, List.set_cons_succ]
                have F3 := Lib.hid hS
                clear hS hb1 F2
                have hno : ¬ FreeD P D n ⟨y1, y2, y3, y4⟩ p := fun h9 => by
                  have h8 := (HDEF.out.1 (fun i hi => h9 i (by have := HK.out; omega))).2 rfl rfl
                  exact h8 ⟨hc1, hc2⟩
                have HNO := Lib.hid hno
                clear hno
                go_wp2
                go_ret
                exact ⟨.no HNO.out, F3.out.bel⟩
            · skip
              refine wp_region_inv (w := wo) 39 (fun _ _ => True) (fun _ W => Fr w.heap.size w W [(w.heap.size, [.int .i64 y1, .int .i64 y2, .int .i64 y3, .int .i64 y4])] [] [] []) [] [(fun u _ => u = .slice (some ⟨bd, od, none⟩) n cd), (fun u _ => u = .int .i64 (k : Int)), (fun u _ => u = .pointer (some ⟨bd, od + k, none⟩)), (fun u _ => u = .bool true), (fun u _ => u = .bool true), (fun u _ => u = .slice (some ⟨b, o, none⟩) n c), (fun u _ => u = .int .i64 (k : Int)), (fun u _ => u = .pointer (some ⟨b, o + k * 4, none⟩)), (fun u _ => u = .agg #[.int .i64 z1, .int .i64 z2, .int .i64 z3, .int .i64 z4]), (fun u _ => u = .agg #[.int .i64 y1, .int .i64 y2, .int .i64 y3, .int .i64 y4]), (fun u _ => u = .bool true), (fun u _ => u = .bool true), (fun u _ => u = .bool true), (fun u _ => u = .slice (some ⟨b, o, none⟩) n c), (fun u _ => u = .int .i64 (k : Int)), (fun u _ => u = .pointer (some ⟨b, o + k * 4, none⟩)), (fun u _ => u = .pointer (some ⟨b, o + k * 4 + 3, none⟩)), (fun u _ => u = .int .i64 z4), (fun u _ => u = .int .i64 p), (fun u _ => u = .pointer (some ⟨w.heap.size, 2, none⟩)), (fun u _ => u = .int .i64 y3), (fun u _ => u = .int .i64 (p + y3)), (fun u _ => u = .bool true), (fun u _ => u = .bool true), (fun u _ => u = .bool true), (fun u _ => u = .int .i64 p), (fun u _ => u = .slice (some ⟨b, o, none⟩) n c), (fun u _ => u = .int .i64 (k : Int)), (fun u _ => u = .pointer (some ⟨b, o + k * 4, none⟩)), (fun u _ => u = .pointer (some ⟨b, o + k * 4 + 3, none⟩)), (fun u _ => u = .int .i64 z4), (fun u _ => u = .slice (some ⟨b, o, none⟩) n c), (fun u _ => u = .int .i64 (k : Int)), (fun u _ => u = .pointer (some ⟨b, o + k * 4, none⟩)), (fun u _ => u = .pointer (some ⟨b, o + k * 4 + 2, none⟩)), (fun u _ => u = .int .i64 z3), (fun u _ => u = .int .i64 (z4 + z3)), (fun u _ => u = .bool false), (fun u _ => u = .bool false)] [some 16, some 17, some 18, some 19, some 20, some 21, some 22, some 23, some 24, some 25, some 26, some 27, some 28, some 29, some 30, some 31, some 32, some 33, some 34, some 35, some 36, some 37, some 38, some 39, some 40, some 41, some 42, some 43, some 44, some 45, some 46, some 47, some 48, some 49, some 50, some 51, some 52, some 53, some 54] (by kernel_rfl) (by kernel_rfl) rfl (by kernel_rfl) (by kernel_rfl) (by decide) (by decide) (fun _ _ => trivial) trivial F2.out.drew (BorneAll.at (.cons (borne_eq _) (.cons (borne_eq _) (.cons (borne_eq _) (.cons (borne_eq _) (.cons (borne_eq _) (.cons (borne_eq _) (.cons (borne_eq _) (.cons (borne_eq _) (.cons (borne_eq _) (.cons (borne_eq _) (.cons (borne_eq _) (.cons (borne_eq _) (.cons (borne_eq _) (.cons (borne_eq _) (.cons (borne_eq _) (.cons (borne_eq _) (.cons (borne_eq _) (.cons (borne_eq _) (.cons (borne_eq _) (.cons (borne_eq _) (.cons (borne_eq _) (.cons (borne_eq _) (.cons (borne_eq _) (.cons (borne_eq _) (.cons (borne_eq _) (.cons (borne_eq _) (.cons (borne_eq _) (.cons (borne_eq _) (.cons (borne_eq _) (.cons (borne_eq _) (.cons (borne_eq _) (.cons (borne_eq _) (.cons (borne_eq _) (.cons (borne_eq _) (.cons (borne_eq _) (.cons (borne_eq _) (.cons (borne_eq _) (.cons (borne_eq _) (.cons (borne_eq _) .nil)))))))))))))))))))))))))))))))))))))))) (fun vs b hvl hvb => ?_)
              obtain ⟨x0, x1, x2, x3, x4, x5, x6, x7, x8, x9, x10, x11, x12, x13, x14, x15, x16, x17, x18, x19, x20, x21, x22, x23, x24, x25, x26, x27, x28, x29, x30, x31, x32, x33, x34, x35, x36, x37, x38, rfl⟩ : ∃ x0 x1 x2 x3 x4 x5 x6 x7 x8 x9 x10 x11 x12 x13 x14 x15 x16 x17 x18 x19 x20 x21 x22 x23 x24 x25 x26 x27 x28 x29 x30 x31 x32 x33 x34 x35 x36 x37 x38, vs = [x0, x1, x2, x3, x4, x5, x6, x7, x8, x9, x10, x11, x12, x13, x14, x15, x16, x17, x18, x19, x20, x21, x22, x23, x24, x25, x26, x27, x28, x29, x30, x31, x32, x33, x34, x35, x36, x37, x38] := lc39 hvl
              clear hvl
              simp only [putAll, Act.put, List.setIfInBounds_toArray, List.set_cons_zero, List.set_cons_succ] at hvb
              subst hvb
              refine ⟨(.snoc (.snoc (.snoc (.snoc (.snoc (.snoc (.snoc (.snoc (.snoc (.snoc (.snoc (.snoc (.snoc (.snoc (.snoc (.snoc (.snoc (.snoc (.snoc (.snoc (.snoc (.snoc (.snoc (.snoc (.snoc (.snoc (.snoc (.snoc (.snoc (.snoc (.snoc (.snoc (.snoc (.snoc (.snoc (.snoc (.snoc (.snoc (.snoc .zero (InvOb.intro (d := (some 16)) (r := fun u _ => u = .slice (some ⟨bd, od, none⟩) n cd) 0 0 rfl rfl rfl (by kernel_rfl) (by kernel_rfl) rfl ?io4c3x0)) (InvOb.intro (d := (some 17)) (r := fun u _ => u = .int .i64 (k : Int)) 0 0 rfl rfl rfl (by kernel_rfl) (by kernel_rfl) rfl ?io4c3x1)) (InvOb.intro (d := (some 18)) (r := fun u _ => u = .pointer (some ⟨bd, od + k, none⟩)) 0 0 rfl rfl rfl (by kernel_rfl) (by kernel_rfl) rfl ?io4c3x2)) (InvOb.intro (d := (some 19)) (r := fun u _ => u = .bool true) 0 0 rfl rfl rfl (by kernel_rfl) (by kernel_rfl) rfl ?io4c3x3)) (InvOb.intro (d := (some 20)) (r := fun u _ => u = .bool true) 0 0 rfl rfl rfl (by kernel_rfl) (by kernel_rfl) rfl ?io4c3x4)) (InvOb.intro (d := (some 21)) (r := fun u _ => u = .slice (some ⟨b, o, none⟩) n c) 0 0 rfl rfl rfl (by kernel_rfl) (by kernel_rfl) rfl ?io4c3x5)) (InvOb.intro (d := (some 22)) (r := fun u _ => u = .int .i64 (k : Int)) 0 0 rfl rfl rfl (by kernel_rfl) (by kernel_rfl) rfl ?io4c3x6)) (InvOb.intro (d := (some 23)) (r := fun u _ => u = .pointer (some ⟨b, o + k * 4, none⟩)) 0 0 rfl rfl rfl (by kernel_rfl) (by kernel_rfl) rfl ?io4c3x7)) (InvOb.intro (d := (some 24)) (r := fun u _ => u = .agg #[.int .i64 z1, .int .i64 z2, .int .i64 z3, .int .i64 z4]) 0 0 rfl rfl rfl (by kernel_rfl) (by kernel_rfl) rfl ?io4c3x8)) (InvOb.intro (d := (some 25)) (r := fun u _ => u = .agg #[.int .i64 y1, .int .i64 y2, .int .i64 y3, .int .i64 y4]) 0 0 rfl rfl rfl (by kernel_rfl) (by kernel_rfl) rfl ?io4c3x9)) (InvOb.intro (d := (some 26)) (r := fun u _ => u = .bool true) 0 0 rfl rfl rfl (by kernel_rfl) (by kernel_rfl) rfl ?io4c3x10)) (InvOb.intro (d := (some 27)) (r := fun u _ => u = .bool true) 0 0 rfl rfl rfl (by kernel_rfl) (by kernel_rfl) rfl ?io4c3x11)) (InvOb.intro (d := (some 28)) (r := fun u _ => u = .bool true) 0 0 rfl rfl rfl (by kernel_rfl) (by kernel_rfl) rfl ?io4c3x12)) (InvOb.intro (d := (some 29)) (r := fun u _ => u = .slice (some ⟨b, o, none⟩) n c) 0 0 rfl rfl rfl (by kernel_rfl) (by kernel_rfl) rfl ?io4c3x13)) (InvOb.intro (d := (some 30)) (r := fun u _ => u = .int .i64 (k : Int)) 0 0 rfl rfl rfl (by kernel_rfl) (by kernel_rfl) rfl ?io4c3x14)) (InvOb.intro (d := (some 31)) (r := fun u _ => u = .pointer (some ⟨b, o + k * 4, none⟩)) 0 0 rfl rfl rfl (by kernel_rfl) (by kernel_rfl) rfl ?io4c3x15)) (InvOb.intro (d := (some 32)) (r := fun u _ => u = .pointer (some ⟨b, o + k * 4 + 3, none⟩)) 0 0 rfl rfl rfl (by kernel_rfl) (by kernel_rfl) rfl ?io4c3x16)) (InvOb.intro (d := (some 33)) (r := fun u _ => u = .int .i64 z4) 0 0 rfl rfl rfl (by kernel_rfl) (by kernel_rfl) rfl ?io4c3x17)) (InvOb.intro (d := (some 34)) (r := fun u _ => u = .int .i64 p) 0 0 rfl rfl rfl (by kernel_rfl) (by kernel_rfl) rfl ?io4c3x18)) (InvOb.intro (d := (some 35)) (r := fun u _ => u = .pointer (some ⟨w.heap.size, 2, none⟩)) 0 0 rfl rfl rfl (by kernel_rfl) (by kernel_rfl) rfl ?io4c3x19)) (InvOb.intro (d := (some 36)) (r := fun u _ => u = .int .i64 y3) 0 0 rfl rfl rfl (by kernel_rfl) (by kernel_rfl) rfl ?io4c3x20)) (InvOb.intro (d := (some 37)) (r := fun u _ => u = .int .i64 (p + y3)) 0 0 rfl rfl rfl (by kernel_rfl) (by kernel_rfl) rfl ?io4c3x21)) (InvOb.intro (d := (some 38)) (r := fun u _ => u = .bool true) 0 0 rfl rfl rfl (by kernel_rfl) (by kernel_rfl) rfl ?io4c3x22)) (InvOb.intro (d := (some 39)) (r := fun u _ => u = .bool true) 0 0 rfl rfl rfl (by kernel_rfl) (by kernel_rfl) rfl ?io4c3x23)) (InvOb.intro (d := (some 40)) (r := fun u _ => u = .bool true) 0 0 rfl rfl rfl (by kernel_rfl) (by kernel_rfl) rfl ?io4c3x24)) (InvOb.intro (d := (some 41)) (r := fun u _ => u = .int .i64 p) 0 0 rfl rfl rfl (by kernel_rfl) (by kernel_rfl) rfl ?io4c3x25)) (InvOb.intro (d := (some 42)) (r := fun u _ => u = .slice (some ⟨b, o, none⟩) n c) 0 0 rfl rfl rfl (by kernel_rfl) (by kernel_rfl) rfl ?io4c3x26)) (InvOb.intro (d := (some 43)) (r := fun u _ => u = .int .i64 (k : Int)) 0 0 rfl rfl rfl (by kernel_rfl) (by kernel_rfl) rfl ?io4c3x27)) (InvOb.intro (d := (some 44)) (r := fun u _ => u = .pointer (some ⟨b, o + k * 4, none⟩)) 0 0 rfl rfl rfl (by kernel_rfl) (by kernel_rfl) rfl ?io4c3x28)) (InvOb.intro (d := (some 45)) (r := fun u _ => u = .pointer (some ⟨b, o + k * 4 + 3, none⟩)) 0 0 rfl rfl rfl (by kernel_rfl) (by kernel_rfl) rfl ?io4c3x29)) (InvOb.intro (d := (some 46)) (r := fun u _ => u = .int .i64 z4) 0 0 rfl rfl rfl (by kernel_rfl) (by kernel_rfl) rfl ?io4c3x30)) (InvOb.intro (d := (some 47)) (r := fun u _ => u = .slice (some ⟨b, o, none⟩) n c) 0 0 rfl rfl rfl (by kernel_rfl) (by kernel_rfl) rfl ?io4c3x31)) (InvOb.intro (d := (some 48)) (r := fun u _ => u = .int .i64 (k : Int)) 0 0 rfl rfl rfl (by kernel_rfl) (by kernel_rfl) rfl ?io4c3x32)) (InvOb.intro (d := (some 49)) (r := fun u _ => u = .pointer (some ⟨b, o + k * 4, none⟩)) 0 0 rfl rfl rfl (by kernel_rfl) (by kernel_rfl) rfl ?io4c3x33)) (InvOb.intro (d := (some 50)) (r := fun u _ => u = .pointer (some ⟨b, o + k * 4 + 2, none⟩)) 0 0 rfl rfl rfl (by kernel_rfl) (by kernel_rfl) rfl ?io4c3x34)) (InvOb.intro (d := (some 51)) (r := fun u _ => u = .int .i64 z3) 0 0 rfl rfl rfl (by kernel_rfl) (by kernel_rfl) rfl ?io4c3x35)) (InvOb.intro (d := (some 52)) (r := fun u _ => u = .int .i64 (z4 + z3)) 0 0 rfl rfl rfl (by kernel_rfl) (by kernel_rfl) rfl ?io4c3x36)) (InvOb.intro (d := (some 53)) (r := fun u _ => u = .bool false) 0 0 rfl rfl rfl (by kernel_rfl) (by kernel_rfl) rfl ?io4c3x37)) (InvOb.intro (d := (some 54)) (r := fun u _ => u = .bool false) 0 0 rfl rfl rfl (by kernel_rfl) (by kernel_rfl) rfl ?io4c3x38)), ?iend4c3⟩
              case io4c3x0 =>
                intro k1 w1 hk0 hk1 hb1 hS hd KK hK
                clear hd
                simp only [Act.put, List.setIfInBounds_toArray, List.set_cons_zero, List.set_cons_succ] at hK
                go_simp
                first | exact hK.out _ _ trivial hS rfl | (have hk := hK.out _ _ trivial hS rfl; revert hk; go_simp)
              case io4c3x1 =>
                intro k1 w1 hk0 hk1 hb1 hS hd KK hK
                clear hd
                simp only [Act.put, List.setIfInBounds_toArray, List.set_cons_zero, List.set_cons_succ] at hK
                go_simp
                first | exact hK.out _ _ trivial hS rfl | (have hk := hK.out _ _ trivial hS rfl; revert hk; go_simp)
              case io4c3x2 =>
                intro k1 w1 hk0 hk1 hb1 hS hd KK hK
                have d0 : x0 = .slice (some ⟨bd, od, none⟩) n cd := hd 0 (by kernel_rfl)
                have d1 : x1 = .int .i64 (k : Int) := hd 1 (by kernel_rfl)
                clear hd
                subst d0
                subst d1
                have g1 := hki
                simp only [Act.put, List.setIfInBounds_toArray, List.set_cons_zero, List.set_cons_succ] at hK
                go_simp
                first | exact hK.out _ _ trivial hS rfl | (have hk := hK.out _ _ trivial hS rfl; revert hk; go_simp)
              case io4c3x3 =>
                intro k1 w1 hk0 hk1 hb1 hS hd KK hK
                have d2 : x2 = .pointer (some ⟨bd, od + k, none⟩) := hd 2 (by kernel_rfl)
                clear hd
                subst d2
                obtain ⟨b9, o9, he9, hl9, d0⟩ := (HD.out.below hS.bel (Nat.le_refl _)) k HK.out
                cases he9
                rw [HDK.out] at d0
                simp only [Act.put, List.setIfInBounds_toArray, List.set_cons_zero, List.set_cons_succ] at hK
                go_simp
                first | exact hK.out _ _ trivial hS rfl | (have hk := hK.out _ _ trivial hS rfl; revert hk; go_simp)
              case io4c3x4 =>
                intro k1 w1 hk0 hk1 hb1 hS hd KK hK
                have d3 : x3 = .bool true := hd 3 (by kernel_rfl)
                clear hd
                subst d3
                simp only [Act.put, List.setIfInBounds_toArray, List.set_cons_zero, List.set_cons_succ] at hK
                go_simp
                first | exact hK.out _ _ trivial hS rfl | (have hk := hK.out _ _ trivial hS rfl; revert hk; go_simp)
              case io4c3x5 =>
                intro k1 w1 hk0 hk1 hb1 hS hd KK hK
                have d4 : x4 = .bool true := hd 4 (by kernel_rfl)
                clear hd
                subst d4
                simp only [Act.put, List.setIfInBounds_toArray, List.set_cons_zero, List.set_cons_succ] at hK
                go_simp
                first | exact hK.out _ _ trivial hS rfl | (have hk := hK.out _ _ trivial hS rfl; revert hk; go_simp)
              case io4c3x6 =>
                intro k1 w1 hk0 hk1 hb1 hS hd KK hK
                have d4 : x4 = .bool true := hd 4 (by kernel_rfl)
                clear hd
                subst d4
                simp only [Act.put, List.setIfInBounds_toArray, List.set_cons_zero, List.set_cons_succ] at hK
                go_simp
                first | exact hK.out _ _ trivial hS rfl | (have hk := hK.out _ _ trivial hS rfl; revert hk; go_simp)
              case io4c3x7 =>
                intro k1 w1 hk0 hk1 hb1 hS hd KK hK
                have d4 : x4 = .bool true := hd 4 (by kernel_rfl)
                have d5 : x5 = .slice (some ⟨b, o, none⟩) n c := hd 5 (by kernel_rfl)
                have d6 : x6 = .int .i64 (k : Int) := hd 6 (by kernel_rfl)
                clear hd
                subst d4
                subst d5
                subst d6
                have g1 := hki
                simp only [Act.put, List.setIfInBounds_toArray, List.set_cons_zero, List.set_cons_succ] at hK
                go_simp
                first | exact hK.out _ _ trivial hS rfl | (have hk := hK.out _ _ trivial hS rfl; revert hk; go_simp)
              case io4c3x8 =>
                intro k1 w1 hk0 hk1 hb1 hS hd KK hK
                have d4 : x4 = .bool true := hd 4 (by kernel_rfl)
                have d7 : x7 = .pointer (some ⟨b, o + k * 4, none⟩) := hd 7 (by kernel_rfl)
                clear hd
                subst d4
                subst d7
                obtain ⟨b9, o9, he9, hl9, d0, d1, d2, d3⟩ := (HL.out.below hS.bel (Nat.le_refl _)).four HK.out
                cases he9
                rw [HX.out] at d0 d1 d2 d3
                simp only [Act.put, List.setIfInBounds_toArray, List.set_cons_zero, List.set_cons_succ] at hK
                go_simp
                first | exact hK.out _ _ trivial hS rfl | (have hk := hK.out _ _ trivial hS rfl; revert hk; go_simp)
              case io4c3x9 =>
                intro k1 w1 hk0 hk1 hb1 hS hd KK hK
                have d4 : x4 = .bool true := hd 4 (by kernel_rfl)
                clear hd
                subst d4
                have k0 := hS.c 0 0 rfl rfl
                have k1 := hS.c 0 1 rfl rfl
                have k2 := hS.c 0 2 rfl rfl
                have k3 := hS.c 0 3 rfl rfl
                simp only [Act.put, List.setIfInBounds_toArray, List.set_cons_zero, List.set_cons_succ] at hK
                go_simp
                first | exact hK.out _ _ trivial hS rfl | (have hk := hK.out _ _ trivial hS rfl; revert hk; go_simp)
              case io4c3x10 =>
                intro k1 w1 hk0 hk1 hb1 hS hd KK hK
                have d4 : x4 = .bool true := hd 4 (by kernel_rfl)
                have d8 : x8 = .agg #[.int .i64 z1, .int .i64 z2, .int .i64 z3, .int .i64 z4] := hd 8 (by kernel_rfl)
                have d9 : x9 = .agg #[.int .i64 y1, .int .i64 y2, .int .i64 y3, .int .i64 y4] := hd 9 (by kernel_rfl)
                clear hd
                subst d4
                subst d8
                subst d9
                simp only [Act.put, List.setIfInBounds_toArray, List.set_cons_zero, List.set_cons_succ] at hK
                go_simp
                go_at_call 12
                refine (HME.out w1).mono ?_
                rintro e w2 ⟨rfl, hb⟩
                (try go_wp2_with fail)
                first | exact hK.out _ _ trivial (hS.next hb) rfl | (have hk := hK.out _ _ trivial (hS.next hb) rfl; revert hk; go_simp)
              case io4c3x11 =>
                intro k1 w1 hk0 hk1 hb1 hS hd KK hK
                have d4 : x4 = .bool true := hd 4 (by kernel_rfl)
                have d10 : x10 = .bool true := hd 10 (by kernel_rfl)
                clear hd
                subst d4
                subst d10
                simp only [Act.put, List.setIfInBounds_toArray, List.set_cons_zero, List.set_cons_succ] at hK
                go_simp
                first | exact hK.out _ _ trivial hS rfl | (have hk := hK.out _ _ trivial hS rfl; revert hk; go_simp)
              case io4c3x12 =>
                intro k1 w1 hk0 hk1 hb1 hS hd KK hK
                have d10 : x10 = .bool true := hd 10 (by kernel_rfl)
                have d11 : x11 = .bool true := hd 11 (by kernel_rfl)
                clear hd
                subst d10
                subst d11
                simp only [Act.put, List.setIfInBounds_toArray, List.set_cons_zero, List.set_cons_succ] at hK
                go_simp
                first | exact hK.out _ _ trivial hS rfl | (have hk := hK.out _ _ trivial hS rfl; revert hk; go_simp)
              case io4c3x13 =>
                intro k1 w1 hk0 hk1 hb1 hS hd KK hK
                have d12 : x12 = .bool true := hd 12 (by kernel_rfl)
                clear hd
                subst d12
                simp only [Act.put, List.setIfInBounds_toArray, List.set_cons_zero, List.set_cons_succ] at hK
                go_simp
                first | exact hK.out _ _ trivial hS rfl | (have hk := hK.out _ _ trivial hS rfl; revert hk; go_simp)
              case io4c3x14 =>
                intro k1 w1 hk0 hk1 hb1 hS hd KK hK
                have d12 : x12 = .bool true := hd 12 (by kernel_rfl)
                clear hd
                subst d12
                simp only [Act.put, List.setIfInBounds_toArray, List.set_cons_zero, List.set_cons_succ] at hK
                go_simp
                first | exact hK.out _ _ trivial hS rfl | (have hk := hK.out _ _ trivial hS rfl; revert hk; go_simp)
              case io4c3x15 =>
                intro k1 w1 hk0 hk1 hb1 hS hd KK hK
                have d12 : x12 = .bool true := hd 12 (by kernel_rfl)
                have d13 : x13 = .slice (some ⟨b, o, none⟩) n c := hd 13 (by kernel_rfl)
                have d14 : x14 = .int .i64 (k : Int) := hd 14 (by kernel_rfl)
                clear hd
                subst d12
                subst d13
                subst d14
                have g1 := hki
                simp only [Act.put, List.setIfInBounds_toArray, List.set_cons_zero, List.set_cons_succ] at hK
                go_simp
                first | exact hK.out _ _ trivial hS rfl | (have hk := hK.out _ _ trivial hS rfl; revert hk; go_simp)
              case io4c3x16 =>
                intro k1 w1 hk0 hk1 hb1 hS hd KK hK
                have d12 : x12 = .bool true := hd 12 (by kernel_rfl)
                have d15 : x15 = .pointer (some ⟨b, o + k * 4, none⟩) := hd 15 (by kernel_rfl)
                clear hd
                subst d12
                subst d15
                simp only [Act.put, List.setIfInBounds_toArray, List.set_cons_zero, List.set_cons_succ] at hK
                go_simp
                first | exact hK.out _ _ trivial hS rfl | (have hk := hK.out _ _ trivial hS rfl; revert hk; go_simp)
              case io4c3x17 =>
                intro k1 w1 hk0 hk1 hb1 hS hd KK hK
                have d12 : x12 = .bool true := hd 12 (by kernel_rfl)
                have d16 : x16 = .pointer (some ⟨b, o + k * 4 + 3, none⟩) := hd 16 (by kernel_rfl)
                clear hd
                subst d12
                subst d16
                obtain ⟨b9, o9, he9, hl9, d0, d1, d2, d3⟩ := (HL.out.below hS.bel (Nat.le_refl _)).four HK.out
                cases he9
                rw [HX.out] at d0 d1 d2 d3
                simp only [Act.put, List.setIfInBounds_toArray, List.set_cons_zero, List.set_cons_succ] at hK
                go_simp
                first | exact hK.out _ _ trivial hS rfl | (have hk := hK.out _ _ trivial hS rfl; revert hk; go_simp)
              case io4c3x18 =>
                intro k1 w1 hk0 hk1 hb1 hS hd KK hK
                have d12 : x12 = .bool true := hd 12 (by kernel_rfl)
                clear hd
                subst d12
                simp only [Act.put, List.setIfInBounds_toArray, List.set_cons_zero, List.set_cons_succ] at hK
                go_simp
                first | exact hK.out _ _ trivial hS rfl | (have hk := hK.out _ _ trivial hS rfl; revert hk; go_simp)
              case io4c3x19 =>
                intro k1 w1 hk0 hk1 hb1 hS hd KK hK
                have d12 : x12 = .bool true := hd 12 (by kernel_rfl)
                clear hd
                subst d12
                simp only [Act.put, List.setIfInBounds_toArray, List.set_cons_zero, List.set_cons_succ] at hK
                go_simp
                first | exact hK.out _ _ trivial hS rfl | (have hk := hK.out _ _ trivial hS rfl; revert hk; go_simp)
              case io4c3x20 =>
                intro k1 w1 hk0 hk1 hb1 hS hd KK hK
                have d12 : x12 = .bool true := hd 12 (by kernel_rfl)
                have d19 : x19 = .pointer (some ⟨w.heap.size, 2, none⟩) := hd 19 (by kernel_rfl)
                clear hd
                subst d12
                subst d19
                have k0 := hS.c 0 0 rfl rfl
                have k1 := hS.c 0 1 rfl rfl
                have k2 := hS.c 0 2 rfl rfl
                have k3 := hS.c 0 3 rfl rfl
                simp only [Act.put, List.setIfInBounds_toArray, List.set_cons_zero, List.set_cons_succ] at hK
                go_simp
                first | exact hK.out _ _ trivial hS rfl | (have hk := hK.out _ _ trivial hS rfl; revert hk; go_simp)
              case io4c3x21 =>
                intro k1 w1 hk0 hk1 hb1 hS hd KK hK
                have d12 : x12 = .bool true := hd 12 (by kernel_rfl)
                have d18 : x18 = .int .i64 p := hd 18 (by kernel_rfl)
                have d20 : x20 = .int .i64 y3 := hd 20 (by kernel_rfl)
                clear hd
                subst d12
                subst d18
                subst d20
                have dx := HW1.out
                simp only [Act.put, List.setIfInBounds_toArray, List.set_cons_zero, List.set_cons_succ] at hK
                go_simp
                first | exact hK.out _ _ trivial hS rfl | (have hk := hK.out _ _ trivial hS rfl; revert hk; go_simp)
              case io4c3x22 =>
                intro k1 w1 hk0 hk1 hb1 hS hd KK hK
                have d12 : x12 = .bool true := hd 12 (by kernel_rfl)
                have d17 : x17 = .int .i64 z4 := hd 17 (by kernel_rfl)
                have d21 : x21 = .int .i64 (p + y3) := hd 21 (by kernel_rfl)
                clear hd
                subst d12
                subst d17
                subst d21
                have g2 := hc1
                simp only [Act.put, List.setIfInBounds_toArray, List.set_cons_zero, List.set_cons_succ] at hK
                go_simp
                first | exact hK.out _ _ trivial hS rfl | (have hk := hK.out _ _ trivial hS rfl; revert hk; go_simp)
              case io4c3x23 =>
                intro k1 w1 hk0 hk1 hb1 hS hd KK hK
                have d12 : x12 = .bool true := hd 12 (by kernel_rfl)
                have d22 : x22 = .bool true := hd 22 (by kernel_rfl)
                clear hd
                subst d12
                subst d22
                simp only [Act.put, List.setIfInBounds_toArray, List.set_cons_zero, List.set_cons_succ] at hK
                go_simp
                first | exact hK.out _ _ trivial hS rfl | (have hk := hK.out _ _ trivial hS rfl; revert hk; go_simp)
              case io4c3x24 =>
                intro k1 w1 hk0 hk1 hb1 hS hd KK hK
                have d12 : x12 = .bool true := hd 12 (by kernel_rfl)
                have d23 : x23 = .bool true := hd 23 (by kernel_rfl)
                clear hd
                subst d12
                subst d23
                simp only [Act.put, List.setIfInBounds_toArray, List.set_cons_zero, List.set_cons_succ] at hK
                go_simp
                first | exact hK.out _ _ trivial hS rfl | (have hk := hK.out _ _ trivial hS rfl; revert hk; go_simp)
              case io4c3x25 =>
                intro k1 w1 hk0 hk1 hb1 hS hd KK hK
                have d24 : x24 = .bool true := hd 24 (by kernel_rfl)
                clear hd
                subst d24
                simp only [Act.put, List.setIfInBounds_toArray, List.set_cons_zero, List.set_cons_succ] at hK
                go_simp
                first | exact hK.out _ _ trivial hS rfl | (have hk := hK.out _ _ trivial hS rfl; revert hk; go_simp)
              case io4c3x26 =>
                intro k1 w1 hk0 hk1 hb1 hS hd KK hK
                have d24 : x24 = .bool true := hd 24 (by kernel_rfl)
                clear hd
                subst d24
                simp only [Act.put, List.setIfInBounds_toArray, List.set_cons_zero, List.set_cons_succ] at hK
                go_simp
                first | exact hK.out _ _ trivial hS rfl | (have hk := hK.out _ _ trivial hS rfl; revert hk; go_simp)
              case io4c3x27 =>
                intro k1 w1 hk0 hk1 hb1 hS hd KK hK
                have d24 : x24 = .bool true := hd 24 (by kernel_rfl)
                clear hd
                subst d24
                simp only [Act.put, List.setIfInBounds_toArray, List.set_cons_zero, List.set_cons_succ] at hK
                go_simp
                first | exact hK.out _ _ trivial hS rfl | (have hk := hK.out _ _ trivial hS rfl; revert hk; go_simp)
              case io4c3x28 =>
                intro k1 w1 hk0 hk1 hb1 hS hd KK hK
                have d24 : x24 = .bool true := hd 24 (by kernel_rfl)
                have d26 : x26 = .slice (some ⟨b, o, none⟩) n c := hd 26 (by kernel_rfl)
                have d27 : x27 = .int .i64 (k : Int) := hd 27 (by kernel_rfl)
                clear hd
                subst d24
                subst d26
                subst d27
                have g1 := hki
                simp only [Act.put, List.setIfInBounds_toArray, List.set_cons_zero, List.set_cons_succ] at hK
                go_simp
                first | exact hK.out _ _ trivial hS rfl | (have hk := hK.out _ _ trivial hS rfl; revert hk; go_simp)
              case io4c3x29 =>
                intro k1 w1 hk0 hk1 hb1 hS hd KK hK
                have d24 : x24 = .bool true := hd 24 (by kernel_rfl)
                have d28 : x28 = .pointer (some ⟨b, o + k * 4, none⟩) := hd 28 (by kernel_rfl)
                clear hd
                subst d24
                subst d28
                simp only [Act.put, List.setIfInBounds_toArray, List.set_cons_zero, List.set_cons_succ] at hK
                go_simp
                first | exact hK.out _ _ trivial hS rfl | (have hk := hK.out _ _ trivial hS rfl; revert hk; go_simp)
              case io4c3x30 =>
                intro k1 w1 hk0 hk1 hb1 hS hd KK hK
                have d24 : x24 = .bool true := hd 24 (by kernel_rfl)
                have d29 : x29 = .pointer (some ⟨b, o + k * 4 + 3, none⟩) := hd 29 (by kernel_rfl)
                clear hd
                subst d24
                subst d29
                obtain ⟨b9, o9, he9, hl9, d0, d1, d2, d3⟩ := (HL.out.below hS.bel (Nat.le_refl _)).four HK.out
                cases he9
                rw [HX.out] at d0 d1 d2 d3
                simp only [Act.put, List.setIfInBounds_toArray, List.set_cons_zero, List.set_cons_succ] at hK
                go_simp
                first | exact hK.out _ _ trivial hS rfl | (have hk := hK.out _ _ trivial hS rfl; revert hk; go_simp)
              case io4c3x31 =>
                intro k1 w1 hk0 hk1 hb1 hS hd KK hK
                have d24 : x24 = .bool true := hd 24 (by kernel_rfl)
                clear hd
                subst d24
                simp only [Act.put, List.setIfInBounds_toArray, List.set_cons_zero, List.set_cons_succ] at hK
                go_simp
                first | exact hK.out _ _ trivial hS rfl | (have hk := hK.out _ _ trivial hS rfl; revert hk; go_simp)
              case io4c3x32 =>
                intro k1 w1 hk0 hk1 hb1 hS hd KK hK
                have d24 : x24 = .bool true := hd 24 (by kernel_rfl)
                clear hd
                subst d24
                simp only [Act.put, List.setIfInBounds_toArray, List.set_cons_zero, List.set_cons_succ] at hK
                go_simp
                first | exact hK.out _ _ trivial hS rfl | (have hk := hK.out _ _ trivial hS rfl; revert hk; go_simp)
              case io4c3x33 =>
                intro k1 w1 hk0 hk1 hb1 hS hd KK hK
                have d24 : x24 = .bool true := hd 24 (by kernel_rfl)
                have d31 : x31 = .slice (some ⟨b, o, none⟩) n c := hd 31 (by kernel_rfl)
                have d32 : x32 = .int .i64 (k : Int) := hd 32 (by kernel_rfl)
                clear hd
                subst d24
                subst d31
                subst d32
                have g1 := hki
                simp only [Act.put, List.setIfInBounds_toArray, List.set_cons_zero, List.set_cons_succ] at hK
                go_simp
                first | exact hK.out _ _ trivial hS rfl | (have hk := hK.out _ _ trivial hS rfl; revert hk; go_simp)
              case io4c3x34 =>
                intro k1 w1 hk0 hk1 hb1 hS hd KK hK
                have d24 : x24 = .bool true := hd 24 (by kernel_rfl)
                have d33 : x33 = .pointer (some ⟨b, o + k * 4, none⟩) := hd 33 (by kernel_rfl)
                clear hd
                subst d24
                subst d33
                simp only [Act.put, List.setIfInBounds_toArray, List.set_cons_zero, List.set_cons_succ] at hK
                go_simp
                first | exact hK.out _ _ trivial hS rfl | (have hk := hK.out _ _ trivial hS rfl; revert hk; go_simp)
              case io4c3x35 =>
                intro k1 w1 hk0 hk1 hb1 hS hd KK hK
                have d24 : x24 = .bool true := hd 24 (by kernel_rfl)
                have d34 : x34 = .pointer (some ⟨b, o + k * 4 + 2, none⟩) := hd 34 (by kernel_rfl)
                clear hd
                subst d24
                subst d34
                obtain ⟨b9, o9, he9, hl9, d0, d1, d2, d3⟩ := (HL.out.below hS.bel (Nat.le_refl _)).four HK.out
                cases he9
                rw [HX.out] at d0 d1 d2 d3
                simp only [Act.put, List.setIfInBounds_toArray, List.set_cons_zero, List.set_cons_succ] at hK
                go_simp
                first | exact hK.out _ _ trivial hS rfl | (have hk := hK.out _ _ trivial hS rfl; revert hk; go_simp)
              case io4c3x36 =>
                intro k1 w1 hk0 hk1 hb1 hS hd KK hK
                have d24 : x24 = .bool true := hd 24 (by kernel_rfl)
                have d30 : x30 = .int .i64 z4 := hd 30 (by kernel_rfl)
                have d35 : x35 = .int .i64 z3 := hd 35 (by kernel_rfl)
                clear hd
                subst d24
                subst d30
                subst d35
                have dx := HW2.out
                simp only [Act.put, List.setIfInBounds_toArray, List.set_cons_zero, List.set_cons_succ] at hK
                go_simp
                first | exact hK.out _ _ trivial hS rfl | (have hk := hK.out _ _ trivial hS rfl; revert hk; go_simp)
              case io4c3x37 =>
                intro k1 w1 hk0 hk1 hb1 hS hd KK hK
                have d24 : x24 = .bool true := hd 24 (by kernel_rfl)
                have d25 : x25 = .int .i64 p := hd 25 (by kernel_rfl)
                have d36 : x36 = .int .i64 (z4 + z3) := hd 36 (by kernel_rfl)
                clear hd
                subst d24
                subst d25
                subst d36
                have g2 := hc2
                simp only [Act.put, List.setIfInBounds_toArray, List.set_cons_zero, List.set_cons_succ] at hK
                go_simp
                first | exact hK.out _ _ trivial hS rfl | (have hk := hK.out _ _ trivial hS rfl; revert hk; go_simp)
              case io4c3x38 =>
                intro k1 w1 hk0 hk1 hb1 hS hd KK hK
                have d24 : x24 = .bool true := hd 24 (by kernel_rfl)
                have d37 : x37 = .bool false := hd 37 (by kernel_rfl)
                clear hd
                subst d24
                subst d37
                simp only [Act.put, List.setIfInBounds_toArray, List.set_cons_zero, List.set_cons_succ] at hK
                go_simp
                first | exact hK.out _ _ trivial hS rfl | (have hk := hK.out _ _ trivial hS rfl; revert hk; go_simp)
              case iend4c3 =>
                intro w1 hb1 hS hR
                have d0 : x0 = .slice (some ⟨bd, od, none⟩) n cd := hR 0 (by decide)
                have d1 : x1 = .int .i64 (k : Int) := hR 1 (by decide)
                have d2 : x2 = .pointer (some ⟨bd, od + k, none⟩) := hR 2 (by decide)
                have d3 : x3 = .bool true := hR 3 (by decide)
                have d4 : x4 = .bool true := hR 4 (by decide)
                have d5 : x5 = .slice (some ⟨b, o, none⟩) n c := hR 5 (by decide)
                have d6 : x6 = .int .i64 (k : Int) := hR 6 (by decide)
                have d7 : x7 = .pointer (some ⟨b, o + k * 4, none⟩) := hR 7 (by decide)
                have d8 : x8 = .agg #[.int .i64 z1, .int .i64 z2, .int .i64 z3, .int .i64 z4] := hR 8 (by decide)
                have d9 : x9 = .agg #[.int .i64 y1, .int .i64 y2, .int .i64 y3, .int .i64 y4] := hR 9 (by decide)
                have d10 : x10 = .bool true := hR 10 (by decide)
                have d11 : x11 = .bool true := hR 11 (by decide)
                have d12 : x12 = .bool true := hR 12 (by decide)
                have d13 : x13 = .slice (some ⟨b, o, none⟩) n c := hR 13 (by decide)
                have d14 : x14 = .int .i64 (k : Int) := hR 14 (by decide)
                have d15 : x15 = .pointer (some ⟨b, o + k * 4, none⟩) := hR 15 (by decide)
                have d16 : x16 = .pointer (some ⟨b, o + k * 4 + 3, none⟩) := hR 16 (by decide)
                have d17 : x17 = .int .i64 z4 := hR 17 (by decide)
                have d18 : x18 = .int .i64 p := hR 18 (by decide)
                have d19 : x19 = .pointer (some ⟨w.heap.size, 2, none⟩) := hR 19 (by decide)
                have d20 : x20 = .int .i64 y3 := hR 20 (by decide)
                have d21 : x21 = .int .i64 (p + y3) := hR 21 (by decide)
                have d22 : x22 = .bool true := hR 22 (by decide)
                have d23 : x23 = .bool true := hR 23 (by decide)
                have d24 : x24 = .bool true := hR 24 (by decide)
                have d25 : x25 = .int .i64 p := hR 25 (by decide)
                have d26 : x26 = .slice (some ⟨b, o, none⟩) n c := hR 26 (by decide)
                have d27 : x27 = .int .i64 (k : Int) := hR 27 (by decide)
                have d28 : x28 = .pointer (some ⟨b, o + k * 4, none⟩) := hR 28 (by decide)
                have d29 : x29 = .pointer (some ⟨b, o + k * 4 + 3, none⟩) := hR 29 (by decide)
                have d30 : x30 = .int .i64 z4 := hR 30 (by decide)
                have d31 : x31 = .slice (some ⟨b, o, none⟩) n c := hR 31 (by decide)
                have d32 : x32 = .int .i64 (k : Int) := hR 32 (by decide)
                have d33 : x33 = .pointer (some ⟨b, o + k * 4, none⟩) := hR 33 (by decide)
                have d34 : x34 = .pointer (some ⟨b, o + k * 4 + 2, none⟩) := hR 34 (by decide)
                have d35 : x35 = .int .i64 z3 := hR 35 (by decide)
                have d36 : x36 = .int .i64 (z4 + z3) := hR 36 (by decide)
                have d37 : x37 = .bool false := hR 37 (by decide)
                have d38 : x38 = .bool false := hR 38 (by decide)
                clear hR
                subst d0
                subst d1
                subst d2
                subst d3
                subst d4
                subst d5
                subst d6
                subst d7
                subst d8
                subst d9
                subst d10
                subst d11
                subst d12
                subst d13
                subst d14
                subst d15
                subst d16
                subst d17
                subst d18
                subst d19
                subst d20
                subst d21
                subst d22
                subst d23
                subst d24
                subst d25
                subst d26
                subst d27
                subst d28
                subst d29
                subst d30
                subst d31
                subst d32
                subst d33
                subst d34
                subst d35
                subst d36
                subst d37
                subst d38
                try simp only [putAll, Act.put, List.setIfInBounds_toArray, List.set_cons_zero, List.set_cons_succ]
                have F3 := Lib.hid hS
                clear hS hb1 F2
                have HA2 : Hid (FreeD P D (k + 1) ⟨y1, y2, y3, y4⟩ p) := Lib.hid (HDEF.out.2 ⟨HA.out, fun _ _ h => hc2 h.2⟩)
                go_wp2
                go_roundw
                case rel => exact ⟨k + 1, by first | rfl | go_num, by omega, HA2, F3⟩
                case measure => (simp only [intOf]; omega)
          · skip
            refine wp_region_inv (w := wo) 39 (fun _ _ => True) (fun _ W => Fr w.heap.size w W [(w.heap.size, [.int .i64 y1, .int .i64 y2, .int .i64 y3, .int .i64 y4])] [] [] []) [] [(fun u _ => u = .slice (some ⟨bd, od, none⟩) n cd), (fun u _ => u = .int .i64 (k : Int)), (fun u _ => u = .pointer (some ⟨bd, od + k, none⟩)), (fun u _ => u = .bool true), (fun u _ => u = .bool true), (fun u _ => u = .slice (some ⟨b, o, none⟩) n c), (fun u _ => u = .int .i64 (k : Int)), (fun u _ => u = .pointer (some ⟨b, o + k * 4, none⟩)), (fun u _ => u = .agg #[.int .i64 z1, .int .i64 z2, .int .i64 z3, .int .i64 z4]), (fun u _ => u = .agg #[.int .i64 y1, .int .i64 y2, .int .i64 y3, .int .i64 y4]), (fun u _ => u = .bool true), (fun u _ => u = .bool true), (fun u _ => u = .bool true), (fun u _ => u = .slice (some ⟨b, o, none⟩) n c), (fun u _ => u = .int .i64 (k : Int)), (fun u _ => u = .pointer (some ⟨b, o + k * 4, none⟩)), (fun u _ => u = .pointer (some ⟨b, o + k * 4 + 3, none⟩)), (fun u _ => u = .int .i64 z4), (fun u _ => u = .int .i64 p), (fun u _ => u = .pointer (some ⟨w.heap.size, 2, none⟩)), (fun u _ => u = .int .i64 y3), (fun u _ => u = .int .i64 (p + y3)), (fun u _ => u = .bool false), (fun u _ => u = .bool false), (fun u _ => u = .bool false), (fun u _ => u = undef), (fun u _ => u = undef), (fun u _ => u = undef), (fun u _ => u = undef), (fun u _ => u = undef), (fun u _ => u = undef), (fun u _ => u = undef), (fun u _ => u = undef), (fun u _ => u = undef), (fun u _ => u = undef), (fun u _ => u = undef), (fun u _ => u = undef), (fun u _ => u = undef), (fun u _ => u = .bool false)] [some 16, some 17, some 18, some 19, some 20, some 21, some 22, some 23, some 24, some 25, some 26, some 27, some 28, some 29, some 30, some 31, some 32, some 33, some 34, some 35, some 36, some 37, some 38, some 39, some 40, some 41, some 42, some 43, some 44, some 45, some 46, some 47, some 48, some 49, some 50, some 51, some 52, some 53, some 54] (by kernel_rfl) (by kernel_rfl) rfl (by kernel_rfl) (by kernel_rfl) (by decide) (by decide) (fun _ _ => trivial) trivial F2.out.drew (BorneAll.at (.cons (borne_eq _) (.cons (borne_eq _) (.cons (borne_eq _) (.cons (borne_eq _) (.cons (borne_eq _) (.cons (borne_eq _) (.cons (borne_eq _) (.cons (borne_eq _) (.cons (borne_eq _) (.cons (borne_eq _) (.cons (borne_eq _) (.cons (borne_eq _) (.cons (borne_eq _) (.cons (borne_eq _) (.cons (borne_eq _) (.cons (borne_eq _) (.cons (borne_eq _) (.cons (borne_eq _) (.cons (borne_eq _) (.cons (borne_eq _) (.cons (borne_eq _) (.cons (borne_eq _) (.cons (borne_eq _) (.cons (borne_eq _) (.cons (borne_eq _) (.cons (borne_eq _) (.cons (borne_eq _) (.cons (borne_eq _) (.cons (borne_eq _) (.cons (borne_eq _) (.cons (borne_eq _) (.cons (borne_eq _) (.cons (borne_eq _) (.cons (borne_eq _) (.cons (borne_eq _) (.cons (borne_eq _) (.cons (borne_eq _) (.cons (borne_eq _) (.cons (borne_eq _) .nil)))))))))))))))))))))))))))))))))))))))) (fun vs b hvl hvb => ?_)
            obtain ⟨x0, x1, x2, x3, x4, x5, x6, x7, x8, x9, x10, x11, x12, x13, x14, x15, x16, x17, x18, x19, x20, x21, x22, x23, x24, x25, x26, x27, x28, x29, x30, x31, x32, x33, x34, x35, x36, x37, x38, rfl⟩ : ∃ x0 x1 x2 x3 x4 x5 x6 x7 x8 x9 x10 x11 x12 x13 x14 x15 x16 x17 x18 x19 x20 x21 x22 x23 x24 x25 x26 x27 x28 x29 x30 x31 x32 x33 x34 x35 x36 x37 x38, vs = [x0, x1, x2, x3, x4, x5, x6, x7, x8, x9, x10, x11, x12, x13, x14, x15, x16, x17, x18, x19, x20, x21, x22, x23, x24, x25, x26, x27, x28, x29, x30, x31, x32, x33, x34, x35, x36, x37, x38] := lc39 hvl
            clear hvl
            simp only [putAll, Act.put, List.setIfInBounds_toArray, List.set_cons_zero, List.set_cons_succ] at hvb
            subst hvb
            refine ⟨(.snoc (.snoc (.snoc (.snoc (.snoc (.snoc (.snoc (.snoc (.snoc (.snoc (.snoc (.snoc (.snoc (.snoc (.snoc (.snoc (.snoc (.snoc (.snoc (.snoc (.snoc (.snoc (.snoc (.snoc (.snoc (.snoc (.snoc (.snoc (.snoc (.snoc (.snoc (.snoc (.snoc (.snoc (.snoc (.snoc (.snoc (.snoc (.snoc .zero (InvOb.intro (d := (some 16)) (r := fun u _ => u = .slice (some ⟨bd, od, none⟩) n cd) 0 0 rfl rfl rfl (by kernel_rfl) (by kernel_rfl) rfl ?io4c2x0)) (InvOb.intro (d := (some 17)) (r := fun u _ => u = .int .i64 (k : Int)) 0 0 rfl rfl rfl (by kernel_rfl) (by kernel_rfl) rfl ?io4c2x1)) (InvOb.intro (d := (some 18)) (r := fun u _ => u = .pointer (some ⟨bd, od + k, none⟩)) 0 0 rfl rfl rfl (by kernel_rfl) (by kernel_rfl) rfl ?io4c2x2)) (InvOb.intro (d := (some 19)) (r := fun u _ => u = .bool true) 0 0 rfl rfl rfl (by kernel_rfl) (by kernel_rfl) rfl ?io4c2x3)) (InvOb.intro (d := (some 20)) (r := fun u _ => u = .bool true) 0 0 rfl rfl rfl (by kernel_rfl) (by kernel_rfl) rfl ?io4c2x4)) (InvOb.intro (d := (some 21)) (r := fun u _ => u = .slice (some ⟨b, o, none⟩) n c) 0 0 rfl rfl rfl (by kernel_rfl) (by kernel_rfl) rfl ?io4c2x5)) (InvOb.intro (d := (some 22)) (r := fun u _ => u = .int .i64 (k : Int)) 0 0 rfl rfl rfl (by kernel_rfl) (by kernel_rfl) rfl ?io4c2x6)) (InvOb.intro (d := (some 23)) (r := fun u _ => u = .pointer (some ⟨b, o + k * 4, none⟩)) 0 0 rfl rfl rfl (by kernel_rfl) (by kernel_rfl) rfl ?io4c2x7)) (InvOb.intro (d := (some 24)) (r := fun u _ => u = .agg #[.int .i64 z1, .int .i64 z2, .int .i64 z3, .int .i64 z4]) 0 0 rfl rfl rfl (by kernel_rfl) (by kernel_rfl) rfl ?io4c2x8)) (InvOb.intro (d := (some 25)) (r := fun u _ => u = .agg #[.int .i64 y1, .int .i64 y2, .int .i64 y3, .int .i64 y4]) 0 0 rfl rfl rfl (by kernel_rfl) (by kernel_rfl) rfl ?io4c2x9)) (InvOb.intro (d := (some 26)) (r := fun u _ => u = .bool true) 0 0 rfl rfl rfl (by kernel_rfl) (by kernel_rfl) rfl ?io4c2x10)) (InvOb.intro (d := (some 27)) (r := fun u _ => u = .bool true) 0 0 rfl rfl rfl (by kernel_rfl) (by kernel_rfl) rfl ?io4c2x11)) (InvOb.intro (d := (some 28)) (r := fun u _ => u = .bool true) 0 0 rfl rfl rfl (by kernel_rfl) (by kernel_rfl) rfl ?io4c2x12)) (InvOb.intro (d := (some 29)) (r := fun u _ => u = .slice (some ⟨b, o, none⟩) n c) 0 0 rfl rfl rfl (by kernel_rfl) (by kernel_rfl) rfl ?io4c2x13)) (InvOb.intro (d := (some 30)) (r := fun u _ => u = .int .i64 (k : Int)) 0 0 rfl rfl rfl (by kernel_rfl) (by kernel_rfl) rfl ?io4c2x14)) (InvOb.intro (d := (some 31)) (r := fun u _ => u = .pointer (some ⟨b, o + k * 4, none⟩)) 0 0 rfl rfl rfl (by kernel_rfl) (by kernel_rfl) rfl ?io4c2x15)) (InvOb.intro (d := (some 32)) (r := fun u _ => u = .pointer (some ⟨b, o + k * 4 + 3, none⟩)) 0 0 rfl rfl rfl (by kernel_rfl) (by kernel_rfl) rfl ?io4c2x16)) (InvOb.intro (d := (some 33)) (r := fun u _ => u = .int .i64 z4) 0 0 rfl rfl rfl (by kernel_rfl) (by kernel_rfl) rfl ?io4c2x17)) (InvOb.intro (d := (some 34)) (r := fun u _ => u = .int .i64 p) 0 0 rfl rfl rfl (by kernel_rfl) (by kernel_rfl) rfl ?io4c2x18)) (InvOb.intro (d := (some 35)) (r := fun u _ => u = .pointer (some ⟨w.heap.size, 2, none⟩)) 0 0 rfl rfl rfl (by kernel_rfl) (by kernel_rfl) rfl ?io4c2x19)) (InvOb.intro (d := (some 36)) (r := fun u _ => u = .int .i64 y3) 0 0 rfl rfl rfl (by kernel_rfl) (by kernel_rfl) rfl ?io4c2x20)) (InvOb.intro (d := (some 37)) (r := fun u _ => u = .int .i64 (p + y3)) 0 0 rfl rfl rfl (by kernel_rfl) (by kernel_rfl) rfl ?io4c2x21)) (InvOb.intro (d := (some 38)) (r := fun u _ => u = .bool false) 0 0 rfl rfl rfl (by kernel_rfl) (by kernel_rfl) rfl ?io4c2x22)) (InvOb.intro (d := (some 39)) (r := fun u _ => u = .bool false) 0 0 rfl rfl rfl (by kernel_rfl) (by kernel_rfl) rfl ?io4c2x23)) (InvOb.intro (d := (some 40)) (r := fun u _ => u = .bool false) 0 0 rfl rfl rfl (by kernel_rfl) (by kernel_rfl) rfl ?io4c2x24)) (InvOb.intro (d := (some 41)) (r := fun u _ => u = undef) 0 0 rfl rfl rfl (by kernel_rfl) (by kernel_rfl) rfl ?io4c2x25)) (InvOb.intro (d := (some 42)) (r := fun u _ => u = undef) 0 0 rfl rfl rfl (by kernel_rfl) (by kernel_rfl) rfl ?io4c2x26)) (InvOb.intro (d := (some 43)) (r := fun u _ => u = undef) 0 0 rfl rfl rfl (by kernel_rfl) (by kernel_rfl) rfl ?io4c2x27)) (InvOb.intro (d := (some 44)) (r := fun u _ => u = undef) 0 0 rfl rfl rfl (by kernel_rfl) (by kernel_rfl) rfl ?io4c2x28)) (InvOb.intro (d := (some 45)) (r := fun u _ => u = undef) 0 0 rfl rfl rfl (by kernel_rfl) (by kernel_rfl) rfl ?io4c2x29)) (InvOb.intro (d := (some 46)) (r := fun u _ => u = undef) 0 0 rfl rfl rfl (by kernel_rfl) (by kernel_rfl) rfl ?io4c2x30)) (InvOb.intro (d := (some 47)) (r := fun u _ => u = undef) 0 0 rfl rfl rfl (by kernel_rfl) (by kernel_rfl) rfl ?io4c2x31)) (InvOb.intro (d := (some 48)) (r := fun u _ => u = undef) 0 0 rfl rfl rfl (by kernel_rfl) (by kernel_rfl) rfl ?io4c2x32)) (InvOb.intro (d := (some 49)) (r := fun u _ => u = undef) 0 0 rfl rfl rfl (by kernel_rfl) (by kernel_rfl) rfl ?io4c2x33)) (InvOb.intro (d := (some 50)) (r := fun u _ => u = undef) 0 0 rfl rfl rfl (by kernel_rfl) (by kernel_rfl) rfl ?io4c2x34)) (InvOb.intro (d := (some 51)) (r := fun u _ => u = undef) 0 0 rfl rfl rfl (by kernel_rfl) (by kernel_rfl) rfl ?io4c2x35)) (InvOb.intro (d := (some 52)) (r := fun u _ => u = undef) 0 0 rfl rfl rfl (by kernel_rfl) (by kernel_rfl) rfl ?io4c2x36)) (InvOb.intro (d := (some 53)) (r := fun u _ => u = undef) 0 0 rfl rfl rfl (by kernel_rfl) (by kernel_rfl) rfl ?io4c2x37)) (InvOb.intro (d := (some 54)) (r := fun u _ => u = .bool false) 0 0 rfl rfl rfl (by kernel_rfl) (by kernel_rfl) rfl ?io4c2x38)), ?iend4c2⟩
            case io4c2x0 =>
              intro k1 w1 hk0 hk1 hb1 hS hd KK hK
              clear hd
              simp only [Act.put, List.setIfInBounds_toArray, List.set_cons_zero, List.set_cons_succ] at hK
              go_simp
              first | exact hK.out _ _ trivial hS rfl | (have hk := hK.out _ _ trivial hS rfl; revert hk; go_simp)
            case io4c2x1 =>
              intro k1 w1 hk0 hk1 hb1 hS hd KK hK
              clear hd
              simp only [Act.put, List.setIfInBounds_toArray, List.set_cons_zero, List.set_cons_succ] at hK
              go_simp
              first | exact hK.out _ _ trivial hS rfl | (have hk := hK.out _ _ trivial hS rfl; revert hk; go_simp)
            case io4c2x2 =>
              intro k1 w1 hk0 hk1 hb1 hS hd KK hK
              have d0 : x0 = .slice (some ⟨bd, od, none⟩) n cd := hd 0 (by kernel_rfl)
              have d1 : x1 = .int .i64 (k : Int) := hd 1 (by kernel_rfl)
              clear hd
              subst d0
              subst d1
              have g1 := hki
              simp only [Act.put, List.setIfInBounds_toArray, List.set_cons_zero, List.set_cons_succ] at hK
              go_simp
              first | exact hK.out _ _ trivial hS rfl | (have hk := hK.out _ _ trivial hS rfl; revert hk; go_simp)
            case io4c2x3 =>
              intro k1 w1 hk0 hk1 hb1 hS hd KK hK
              have d2 : x2 = .pointer (some ⟨bd, od + k, none⟩) := hd 2 (by kernel_rfl)
              clear hd
              subst d2
              obtain ⟨b9, o9, he9, hl9, d0⟩ := (HD.out.below hS.bel (Nat.le_refl _)) k HK.out
              cases he9
              rw [HDK.out] at d0
              simp only [Act.put, List.setIfInBounds_toArray, List.set_cons_zero, List.set_cons_succ] at hK
              go_simp
              first | exact hK.out _ _ trivial hS rfl | (have hk := hK.out _ _ trivial hS rfl; revert hk; go_simp)
            case io4c2x4 =>
              intro k1 w1 hk0 hk1 hb1 hS hd KK hK
              have d3 : x3 = .bool true := hd 3 (by kernel_rfl)
              clear hd
              subst d3
              simp only [Act.put, List.setIfInBounds_toArray, List.set_cons_zero, List.set_cons_succ] at hK
              go_simp
              first | exact hK.out _ _ trivial hS rfl | (have hk := hK.out _ _ trivial hS rfl; revert hk; go_simp)
            case io4c2x5 =>
              intro k1 w1 hk0 hk1 hb1 hS hd KK hK
              have d4 : x4 = .bool true := hd 4 (by kernel_rfl)
              clear hd
              subst d4
              simp only [Act.put, List.setIfInBounds_toArray, List.set_cons_zero, List.set_cons_succ] at hK
              go_simp
              first | exact hK.out _ _ trivial hS rfl | (have hk := hK.out _ _ trivial hS rfl; revert hk; go_simp)
            case io4c2x6 =>
              intro k1 w1 hk0 hk1 hb1 hS hd KK hK
              have d4 : x4 = .bool true := hd 4 (by kernel_rfl)
              clear hd
              subst d4
              simp only [Act.put, List.setIfInBounds_toArray, List.set_cons_zero, List.set_cons_succ] at hK
              go_simp
              first | exact hK.out _ _ trivial hS rfl | (have hk := hK.out _ _ trivial hS rfl; revert hk; go_simp)
            case io4c2x7 =>
              intro k1 w1 hk0 hk1 hb1 hS hd KK hK
              have d4 : x4 = .bool true := hd 4 (by kernel_rfl)
              have d5 : x5 = .slice (some ⟨b, o, none⟩) n c := hd 5 (by kernel_rfl)
              have d6 : x6 = .int .i64 (k : Int) := hd 6 (by kernel_rfl)
              clear hd
              subst d4
              subst d5
              subst d6
              have g1 := hki
              simp only [Act.put, List.setIfInBounds_toArray, List.set_cons_zero, List.set_cons_succ] at hK
              go_simp
              first | exact hK.out _ _ trivial hS rfl | (have hk := hK.out _ _ trivial hS rfl; revert hk; go_simp)
            case io4c2x8 =>
              intro k1 w1 hk0 hk1 hb1 hS hd KK hK
              have d4 : x4 = .bool true := hd 4 (by kernel_rfl)
              have d7 : x7 = .pointer (some ⟨b, o + k * 4, none⟩) := hd 7 (by kernel_rfl)
              clear hd
              subst d4
              subst d7
              obtain ⟨b9, o9, he9, hl9, d0, d1, d2, d3⟩ := (HL.out.below hS.bel (Nat.le_refl _)).four HK.out
              cases he9
              rw [HX.out] at d0 d1 d2 d3
              simp only [Act.put, List.setIfInBounds_toArray, List.set_cons_zero, List.set_cons_succ] at hK
              go_simp
              first | exact hK.out _ _ trivial hS rfl | (have hk := hK.out _ _ trivial hS rfl; revert hk; go_simp)
            case io4c2x9 =>
              intro k1 w1 hk0 hk1 hb1 hS hd KK hK
              have d4 : x4 = .bool true := hd 4 (by kernel_rfl)
              clear hd
              subst d4
              have k0 := hS.c 0 0 rfl rfl
              have k1 := hS.c 0 1 rfl rfl
              have k2 := hS.c 0 2 rfl rfl
              have k3 := hS.c 0 3 rfl rfl
              simp only [Act.put, List.setIfInBounds_toArray, List.set_cons_zero, List.set_cons_succ] at hK
              go_simp
              first | exact hK.out _ _ trivial hS rfl | (have hk := hK.out _ _ trivial hS rfl; revert hk; go_simp)
            case io4c2x10 =>
              intro k1 w1 hk0 hk1 hb1 hS hd KK hK
              have d4 : x4 = .bool true := hd 4 (by kernel_rfl)
              have d8 : x8 = .agg #[.int .i64 z1, .int .i64 z2, .int .i64 z3, .int .i64 z4] := hd 8 (by kernel_rfl)
              have d9 : x9 = .agg #[.int .i64 y1, .int .i64 y2, .int .i64 y3, .int .i64 y4] := hd 9 (by kernel_rfl)
              clear hd
              subst d4
              subst d8
              subst d9
              simp only [Act.put, List.setIfInBounds_toArray, List.set_cons_zero, List.set_cons_succ] at hK
              go_simp
              go_at_call 12
              refine (HME.out w1).mono ?_
              rintro e w2 ⟨rfl, hb⟩
              (try go_wp2_with fail)
              first | exact hK.out _ _ trivial (hS.next hb) rfl | (have hk := hK.out _ _ trivial (hS.next hb) rfl; revert hk; go_simp)
            case io4c2x11 =>
              intro k1 w1 hk0 hk1 hb1 hS hd KK hK
              have d4 : x4 = .bool true := hd 4 (by kernel_rfl)
              have d10 : x10 = .bool true := hd 10 (by kernel_rfl)
              clear hd
              subst d4
              subst d10
              simp only [Act.put, List.setIfInBounds_toArray, List.set_cons_zero, List.set_cons_succ] at hK
              go_simp
              first | exact hK.out _ _ trivial hS rfl | (have hk := hK.out _ _ trivial hS rfl; revert hk; go_simp)
            case io4c2x12 =>
              intro k1 w1 hk0 hk1 hb1 hS hd KK hK
              have d10 : x10 = .bool true := hd 10 (by kernel_rfl)
              have d11 : x11 = .bool true := hd 11 (by kernel_rfl)
              clear hd
              subst d10
              subst d11
              simp only [Act.put, List.setIfInBounds_toArray, List.set_cons_zero, List.set_cons_succ] at hK
              go_simp
              first | exact hK.out _ _ trivial hS rfl | (have hk := hK.out _ _ trivial hS rfl; revert hk; go_simp)
            case io4c2x13 =>
              intro k1 w1 hk0 hk1 hb1 hS hd KK hK
              have d12 : x12 = .bool true := hd 12 (by kernel_rfl)
              clear hd
              subst d12
              simp only [Act.put, List.setIfInBounds_toArray, List.set_cons_zero, List.set_cons_succ] at hK
              go_simp
              first | exact hK.out _ _ trivial hS rfl | (have hk := hK.out _ _ trivial hS rfl; revert hk; go_simp)
            case io4c2x14 =>
              intro k1 w1 hk0 hk1 hb1 hS hd KK hK
              have d12 : x12 = .bool true := hd 12 (by kernel_rfl)
              clear hd
              subst d12
              simp only [Act.put, List.setIfInBounds_toArray, List.set_cons_zero, List.set_cons_succ] at hK
              go_simp
              first | exact hK.out _ _ trivial hS rfl | (have hk := hK.out _ _ trivial hS rfl; revert hk; go_simp)
            case io4c2x15 =>
              intro k1 w1 hk0 hk1 hb1 hS hd KK hK
              have d12 : x12 = .bool true := hd 12 (by kernel_rfl)
              have d13 : x13 = .slice (some ⟨b, o, none⟩) n c := hd 13 (by kernel_rfl)
              have d14 : x14 = .int .i64 (k : Int) := hd 14 (by kernel_rfl)
              clear hd
              subst d12
              subst d13
              subst d14
              have g1 := hki
              simp only [Act.put, List.setIfInBounds_toArray, List.set_cons_zero, List.set_cons_succ] at hK
              go_simp
              first | exact hK.out _ _ trivial hS rfl | (have hk := hK.out _ _ trivial hS rfl; revert hk; go_simp)
            case io4c2x16 =>
              intro k1 w1 hk0 hk1 hb1 hS hd KK hK
              have d12 : x12 = .bool true := hd 12 (by kernel_rfl)
              have d15 : x15 = .pointer (some ⟨b, o + k * 4, none⟩) := hd 15 (by kernel_rfl)
              clear hd
              subst d12
              subst d15
              simp only [Act.put, List.setIfInBounds_toArray, List.set_cons_zero, List.set_cons_succ] at hK
              go_simp
              first | exact hK.out _ _ trivial hS rfl | (have hk := hK.out _ _ trivial hS rfl; revert hk; go_simp)
            case io4c2x17 =>
              intro k1 w1 hk0 hk1 hb1 hS hd KK hK
              have d12 : x12 = .bool true := hd 12 (by kernel_rfl)
              have d16 : x16 = .pointer (some ⟨b, o + k * 4 + 3, none⟩) := hd 16 (by kernel_rfl)
              clear hd
              subst d12
              subst d16
              obtain ⟨b9, o9, he9, hl9, d0, d1, d2, d3⟩ := (HL.out.below hS.bel (Nat.le_refl _)).four HK.out
              cases he9
              rw [HX.out] at d0 d1 d2 d3
              simp only [Act.put, List.setIfInBounds_toArray, List.set_cons_zero, List.set_cons_succ] at hK
              go_simp
              first | exact hK.out _ _ trivial hS rfl | (have hk := hK.out _ _ trivial hS rfl; revert hk; go_simp)
            case io4c2x18 =>
              intro k1 w1 hk0 hk1 hb1 hS hd KK hK
              have d12 : x12 = .bool true := hd 12 (by kernel_rfl)
              clear hd
              subst d12
              simp only [Act.put, List.setIfInBounds_toArray, List.set_cons_zero, List.set_cons_succ] at hK
              go_simp
              first | exact hK.out _ _ trivial hS rfl | (have hk := hK.out _ _ trivial hS rfl; revert hk; go_simp)
            case io4c2x19 =>
              intro k1 w1 hk0 hk1 hb1 hS hd KK hK
              have d12 : x12 = .bool true := hd 12 (by kernel_rfl)
              clear hd
              subst d12
              simp only [Act.put, List.setIfInBounds_toArray, List.set_cons_zero, List.set_cons_succ] at hK
              go_simp
              first | exact hK.out _ _ trivial hS rfl | (have hk := hK.out _ _ trivial hS rfl; revert hk; go_simp)
            case io4c2x20 =>
              intro k1 w1 hk0 hk1 hb1 hS hd KK hK
              have d12 : x12 = .bool true := hd 12 (by kernel_rfl)
              have d19 : x19 = .pointer (some ⟨w.heap.size, 2, none⟩) := hd 19 (by kernel_rfl)
              clear hd
              subst d12
              subst d19
              have k0 := hS.c 0 0 rfl rfl
              have k1 := hS.c 0 1 rfl rfl
              have k2 := hS.c 0 2 rfl rfl
              have k3 := hS.c 0 3 rfl rfl
              simp only [Act.put, List.setIfInBounds_toArray, List.set_cons_zero, List.set_cons_succ] at hK
              go_simp
              first | exact hK.out _ _ trivial hS rfl | (have hk := hK.out _ _ trivial hS rfl; revert hk; go_simp)
            case io4c2x21 =>
              intro k1 w1 hk0 hk1 hb1 hS hd KK hK
              have d12 : x12 = .bool true := hd 12 (by kernel_rfl)
              have d18 : x18 = .int .i64 p := hd 18 (by kernel_rfl)
              have d20 : x20 = .int .i64 y3 := hd 20 (by kernel_rfl)
              clear hd
              subst d12
              subst d18
              subst d20
              have dx := HW1.out
              simp only [Act.put, List.setIfInBounds_toArray, List.set_cons_zero, List.set_cons_succ] at hK
              go_simp
              first | exact hK.out _ _ trivial hS rfl | (have hk := hK.out _ _ trivial hS rfl; revert hk; go_simp)
            case io4c2x22 =>
              intro k1 w1 hk0 hk1 hb1 hS hd KK hK
              have d12 : x12 = .bool true := hd 12 (by kernel_rfl)
              have d17 : x17 = .int .i64 z4 := hd 17 (by kernel_rfl)
              have d21 : x21 = .int .i64 (p + y3) := hd 21 (by kernel_rfl)
              clear hd
              subst d12
              subst d17
              subst d21
              have g2 := hc1
              simp only [Act.put, List.setIfInBounds_toArray, List.set_cons_zero, List.set_cons_succ] at hK
              go_simp
              first | exact hK.out _ _ trivial hS rfl | (have hk := hK.out _ _ trivial hS rfl; revert hk; go_simp)
            case io4c2x23 =>
              intro k1 w1 hk0 hk1 hb1 hS hd KK hK
              have d12 : x12 = .bool true := hd 12 (by kernel_rfl)
              have d22 : x22 = .bool false := hd 22 (by kernel_rfl)
              clear hd
              subst d12
              subst d22
              simp only [Act.put, List.setIfInBounds_toArray, List.set_cons_zero, List.set_cons_succ] at hK
              go_simp
              first | exact hK.out _ _ trivial hS rfl | (have hk := hK.out _ _ trivial hS rfl; revert hk; go_simp)
            case io4c2x24 =>
              intro k1 w1 hk0 hk1 hb1 hS hd KK hK
              have d12 : x12 = .bool true := hd 12 (by kernel_rfl)
              have d23 : x23 = .bool false := hd 23 (by kernel_rfl)
              clear hd
              subst d12
              subst d23
              simp only [Act.put, List.setIfInBounds_toArray, List.set_cons_zero, List.set_cons_succ] at hK
              go_simp
              first | exact hK.out _ _ trivial hS rfl | (have hk := hK.out _ _ trivial hS rfl; revert hk; go_simp)
            case io4c2x25 =>
              intro k1 w1 hk0 hk1 hb1 hS hd KK hK
              have d24 : x24 = .bool false := hd 24 (by kernel_rfl)
              clear hd
              subst d24
              simp only [Act.put, List.setIfInBounds_toArray, List.set_cons_zero, List.set_cons_succ] at hK
              go_simp
              first | exact hK.out _ _ trivial hS rfl | (have hk := hK.out _ _ trivial hS rfl; revert hk; go_simp)
            case io4c2x26 =>
              intro k1 w1 hk0 hk1 hb1 hS hd KK hK
              have d24 : x24 = .bool false := hd 24 (by kernel_rfl)
              clear hd
              subst d24
              simp only [Act.put, List.setIfInBounds_toArray, List.set_cons_zero, List.set_cons_succ] at hK
              go_simp
              first | exact hK.out _ _ trivial hS rfl | (have hk := hK.out _ _ trivial hS rfl; revert hk; go_simp)
            case io4c2x27 =>
              intro k1 w1 hk0 hk1 hb1 hS hd KK hK
              have d24 : x24 = .bool false := hd 24 (by kernel_rfl)
              clear hd
              subst d24
              simp only [Act.put, List.setIfInBounds_toArray, List.set_cons_zero, List.set_cons_succ] at hK
              go_simp
              first | exact hK.out _ _ trivial hS rfl | (have hk := hK.out _ _ trivial hS rfl; revert hk; go_simp)
            case io4c2x28 =>
              intro k1 w1 hk0 hk1 hb1 hS hd KK hK
              have d24 : x24 = .bool false := hd 24 (by kernel_rfl)
              have d26 : x26 = undef := hd 26 (by kernel_rfl)
              have d27 : x27 = undef := hd 27 (by kernel_rfl)
              clear hd
              subst d24
              subst d26
              subst d27
              simp only [Act.put, List.setIfInBounds_toArray, List.set_cons_zero, List.set_cons_succ] at hK
              go_simp
              first | exact hK.out _ _ trivial hS rfl | (have hk := hK.out _ _ trivial hS rfl; revert hk; go_simp)
            case io4c2x29 =>
              intro k1 w1 hk0 hk1 hb1 hS hd KK hK
              have d24 : x24 = .bool false := hd 24 (by kernel_rfl)
              have d28 : x28 = undef := hd 28 (by kernel_rfl)
              clear hd
              subst d24
              subst d28
              simp only [Act.put, List.setIfInBounds_toArray, List.set_cons_zero, List.set_cons_succ] at hK
              go_simp
              first | exact hK.out _ _ trivial hS rfl | (have hk := hK.out _ _ trivial hS rfl; revert hk; go_simp)
            case io4c2x30 =>
              intro k1 w1 hk0 hk1 hb1 hS hd KK hK
              have d24 : x24 = .bool false := hd 24 (by kernel_rfl)
              have d29 : x29 = undef := hd 29 (by kernel_rfl)
              clear hd
              subst d24
              subst d29
              simp only [Act.put, List.setIfInBounds_toArray, List.set_cons_zero, List.set_cons_succ] at hK
              go_simp
              first | exact hK.out _ _ trivial hS rfl | (have hk := hK.out _ _ trivial hS rfl; revert hk; go_simp)
            case io4c2x31 =>
              intro k1 w1 hk0 hk1 hb1 hS hd KK hK
              have d24 : x24 = .bool false := hd 24 (by kernel_rfl)
              clear hd
              subst d24
              simp only [Act.put, List.setIfInBounds_toArray, List.set_cons_zero, List.set_cons_succ] at hK
              go_simp
              first | exact hK.out _ _ trivial hS rfl | (have hk := hK.out _ _ trivial hS rfl; revert hk; go_simp)
            case io4c2x32 =>
              intro k1 w1 hk0 hk1 hb1 hS hd KK hK
              have d24 : x24 = .bool false := hd 24 (by kernel_rfl)
              clear hd
              subst d24
              simp only [Act.put, List.setIfInBounds_toArray, List.set_cons_zero, List.set_cons_succ] at hK
              go_simp
              first | exact hK.out _ _ trivial hS rfl | (have hk := hK.out _ _ trivial hS rfl; revert hk; go_simp)
            case io4c2x33 =>
              intro k1 w1 hk0 hk1 hb1 hS hd KK hK
              have d24 : x24 = .bool false := hd 24 (by kernel_rfl)
              have d31 : x31 = undef := hd 31 (by kernel_rfl)
              have d32 : x32 = undef := hd 32 (by kernel_rfl)
              clear hd
              subst d24
              subst d31
              subst d32
              simp only [Act.put, List.setIfInBounds_toArray, List.set_cons_zero, List.set_cons_succ] at hK
              go_simp
              first | exact hK.out _ _ trivial hS rfl | (have hk := hK.out _ _ trivial hS rfl; revert hk; go_simp)
            case io4c2x34 =>
              intro k1 w1 hk0 hk1 hb1 hS hd KK hK
              have d24 : x24 = .bool false := hd 24 (by kernel_rfl)
              have d33 : x33 = undef := hd 33 (by kernel_rfl)
              clear hd
              subst d24
              subst d33
              simp only [Act.put, List.setIfInBounds_toArray, List.set_cons_zero, List.set_cons_succ] at hK
              go_simp
              first | exact hK.out _ _ trivial hS rfl | (have hk := hK.out _ _ trivial hS rfl; revert hk; go_simp)
            case io4c2x35 =>
              intro k1 w1 hk0 hk1 hb1 hS hd KK hK
              have d24 : x24 = .bool false := hd 24 (by kernel_rfl)
              have d34 : x34 = undef := hd 34 (by kernel_rfl)
              clear hd
              subst d24
              subst d34
              simp only [Act.put, List.setIfInBounds_toArray, List.set_cons_zero, List.set_cons_succ] at hK
              go_simp
              first | exact hK.out _ _ trivial hS rfl | (have hk := hK.out _ _ trivial hS rfl; revert hk; go_simp)
            case io4c2x36 =>
              intro k1 w1 hk0 hk1 hb1 hS hd KK hK
              have d24 : x24 = .bool false := hd 24 (by kernel_rfl)
              have d30 : x30 = undef := hd 30 (by kernel_rfl)
              have d35 : x35 = undef := hd 35 (by kernel_rfl)
              clear hd
              subst d24
              subst d30
              subst d35
              simp only [Act.put, List.setIfInBounds_toArray, List.set_cons_zero, List.set_cons_succ] at hK
              go_simp
              first | exact hK.out _ _ trivial hS rfl | (have hk := hK.out _ _ trivial hS rfl; revert hk; go_simp)
            case io4c2x37 =>
              intro k1 w1 hk0 hk1 hb1 hS hd KK hK
              have d24 : x24 = .bool false := hd 24 (by kernel_rfl)
              have d25 : x25 = undef := hd 25 (by kernel_rfl)
              have d36 : x36 = undef := hd 36 (by kernel_rfl)
              clear hd
              subst d24
              subst d25
              subst d36
              simp only [Act.put, List.setIfInBounds_toArray, List.set_cons_zero, List.set_cons_succ] at hK
              go_simp
              first | exact hK.out _ _ trivial hS rfl | (have hk := hK.out _ _ trivial hS rfl; revert hk; go_simp)
            case io4c2x38 =>
              intro k1 w1 hk0 hk1 hb1 hS hd KK hK
              have d24 : x24 = .bool false := hd 24 (by kernel_rfl)
              have d37 : x37 = undef := hd 37 (by kernel_rfl)
              clear hd
              subst d24
              subst d37
              simp only [Act.put, List.setIfInBounds_toArray, List.set_cons_zero, List.set_cons_succ] at hK
              go_simp
              first | exact hK.out _ _ trivial hS rfl | (have hk := hK.out _ _ trivial hS rfl; revert hk; go_simp)
            case iend4c2 =>
              intro w1 hb1 hS hR
              have d0 : x0 = .slice (some ⟨bd, od, none⟩) n cd := hR 0 (by decide)
              have d1 : x1 = .int .i64 (k : Int) := hR 1 (by decide)
              have d2 : x2 = .pointer (some ⟨bd, od + k, none⟩) := hR 2 (by decide)
              have d3 : x3 = .bool true := hR 3 (by decide)
              have d4 : x4 = .bool true := hR 4 (by decide)
              have d5 : x5 = .slice (some ⟨b, o, none⟩) n c := hR 5 (by decide)
              have d6 : x6 = .int .i64 (k : Int) := hR 6 (by decide)
              have d7 : x7 = .pointer (some ⟨b, o + k * 4, none⟩) := hR 7 (by decide)
              have d8 : x8 = .agg #[.int .i64 z1, .int .i64 z2, .int .i64 z3, .int .i64 z4] := hR 8 (by decide)
              have d9 : x9 = .agg #[.int .i64 y1, .int .i64 y2, .int .i64 y3, .int .i64 y4] := hR 9 (by decide)
              have d10 : x10 = .bool true := hR 10 (by decide)
              have d11 : x11 = .bool true := hR 11 (by decide)
              have d12 : x12 = .bool true := hR 12 (by decide)
              have d13 : x13 = .slice (some ⟨b, o, none⟩) n c := hR 13 (by decide)
              have d14 : x14 = .int .i64 (k : Int) := hR 14 (by decide)
              have d15 : x15 = .pointer (some ⟨b, o + k * 4, none⟩) := hR 15 (by decide)
              have d16 : x16 = .pointer (some ⟨b, o + k * 4 + 3, none⟩) := hR 16 (by decide)
              have d17 : x17 = .int .i64 z4 := hR 17 (by decide)
              have d18 : x18 = .int .i64 p := hR 18 (by decide)
              have d19 : x19 = .pointer (some ⟨w.heap.size, 2, none⟩) := hR 19 (by decide)
              have d20 : x20 = .int .i64 y3 := hR 20 (by decide)
              have d21 : x21 = .int .i64 (p + y3) := hR 21 (by decide)
              have d22 : x22 = .bool false := hR 22 (by decide)
              have d23 : x23 = .bool false := hR 23 (by decide)
              have d24 : x24 = .bool false := hR 24 (by decide)
              have d25 : x25 = undef := hR 25 (by decide)
              have d26 : x26 = undef := hR 26 (by decide)
              have d27 : x27 = undef := hR 27 (by decide)
              have d28 : x28 = undef := hR 28 (by decide)
              have d29 : x29 = undef := hR 29 (by decide)
              have d30 : x30 = undef := hR 30 (by decide)
              have d31 : x31 = undef := hR 31 (by decide)
              have d32 : x32 = undef := hR 32 (by decide)
              have d33 : x33 = undef := hR 33 (by decide)
              have d34 : x34 = undef := hR 34 (by decide)
              have d35 : x35 = undef := hR 35 (by decide)
              have d36 : x36 = undef := hR 36 (by decide)
              have d37 : x37 = undef := hR 37 (by decide)
              have d38 : x38 = .bool false := hR 38 (by decide)
              clear hR
              subst d0
              subst d1
              subst d2
              subst d3
              subst d4
              subst d5
              subst d6
              subst d7
              subst d8
              subst d9
              subst d10
              subst d11
              subst d12
              subst d13
              subst d14
              subst d15
              subst d16
              subst d17
              subst d18
              subst d19
              subst d20
              subst d21
              subst d22
              subst d23
              subst d24
              subst d25
              subst d26
              subst d27
              subst d28
              subst d29
              subst d30
              subst d31
              subst d32
              subst d33
              subst d34
              subst d35
              subst d36
              subst d37
              subst d38
              try simp only [putAll, Act.put, List.setIfInBounds_toArray, List.set_cons_zero, List.set_cons_succ]
              have F3 := Lib.hid hS
              clear hS hb1 F2
              have HA2 : Hid (FreeD P D (k + 1) ⟨y1, y2, y3, y4⟩ p) := Lib.hid (HDEF.out.2 ⟨HA.out, fun _ _ h => hc1 h.1⟩)
              go_wp2
              go_roundw
              case rel => exact ⟨k + 1, by first | rfl | go_num, by omega, HA2, F3⟩
              case measure => (simp only [intOf]; omega)
    · obtain rfl : k = n := by omega
      go_wp2
      go_ret
      exact ⟨.yes HA.out, F2.out.bel⟩
end Go.Proofs.Ytdpnichgdfpmgaa
