/- Walks: what of layer 12 is too heavy to be played. -/
import Derived.Test.YtmjcpgfekpedkaaPoS
set_option linter.unusedVariables false
set_option linter.unusedSimpArgs false
namespace Go.Proofs.Ytmjcpgfekpedkaa
open Go.RowKit Go.Rt
attribute [local go_sem] Oper.semAt_some
theorem prodI_snoc9 : ∀ (l : List Int) (x : Int), prodI (l ++ [x]) = prodI l * x
  | [], x => by simp [prodI]
  | y :: l, x => by rw [List.cons_append]; simp only [prodI]; rw [prodI_snoc9 l x, Int.mul_assoc]
theorem le_mul_one {a b : Int} (ha : 0 ≤ a) (hb : 1 ≤ b) : a ≤ a * b := by have := Int.mul_le_mul_of_nonneg_left hb ha; omega
/-- What a quiet answer tells. -/
def Light (xs ys : List Int) (wv : WinV) : Prop := ys.length ≤ 60 ∧ xs.length ≤ 8 ∧ (winZ xs ys wv = 0 → goodB wv.K = true)
def LightR (xs ys : List Int) (wv : WinV) (e : Ending) : Prop := ∃ B : Bool, e = .returned (.bool B) ∧ (B = false → Light xs ys wv)
theorem lr_true {xs ys : List Int} {wv : WinV} : LightR xs ys wv (.returned (.bool true)) := ⟨true, rfl, fun h => by cases h⟩
theorem lr_false {xs ys : List Int} {wv : WinV} (h : Light xs ys wv) : LightR xs ys wv (.returned (.bool false)) := ⟨false, rfl, fun _ => h⟩
theorem winZ_num {xs ys : List Int} {wv : WinV} (h : winZ xs ys wv = 0) : tenB xs ys = true ∧ numB true wv.K wv.S wv.P wv.D = true ∧ xs.length = 2 + wv.S.length ∧ wv.okB = true := by
  obtain ⟨h1, h2⟩ := winZ_ok h
  obtain ⟨h3, h4, h5, _, _⟩ := outZ_ok h2
  exact ⟨h1, h3, h4, h5⟩
theorem light_bad {xs ys : List Int} {wv : WinV} (g1 : ys.length ≤ 60) (g2 : xs.length ≤ 8) (h : winZ xs ys wv ≠ 0) : Light xs ys wv := ⟨g1, g2, fun h2 => absurd h2 h⟩
set_option maxRecDepth 100000 in
set_option maxHeartbeats 4000000 in
theorem heavy12_any (a b : Option Addr) (c d : Nat) (xs ys : List Int) (aK aS aP aD : Option Addr) (cK cS cP cD : Nat) (wv : WinV) (w : World) (h : Ints .i64 w w.heap.size a xs) (h2 : Ints .i64 w w.heap.size b ys) (hK : Ints .i64 w w.heap.size aK wv.K) (hS : Ints .i64 w w.heap.size aS wv.S) (hP : Ints .i64 w w.heap.size aP wv.P) (hD : Ints .i64 w w.heap.size aD wv.D) (hL : wv.L = xs.drop 2) :
    Calls Try.prog 6 #[.agg #[.slice a xs.length c, .slice b ys.length d, .slice aK wv.K.length cK, .slice aS wv.S.length cS, .slice aP wv.P.length cP, .slice aD wv.D.length cD]] w fun e w' => LightR xs ys wv e ∧ Below w.heap.size w w' := by
  have hl1 := h.len
  have hl2 := h2.len
  have hl3 := hS.len
  have hhv := fun W => heavyT_any a b xs.length c ys.length d 60 W hl1 hl2
  have HLG := Lib.hid (fun W hK hS hP hD => long_any aK aS aP aD cK cS cP cD wv.K wv.S wv.P wv.D W hK hS hP hD)
  have HMY := Lib.hid (fun W hK hS hP hD => refMay_any true aK aS aP aD cK cS cP cD wv.K wv.S wv.P wv.D W hK hS hP hD)
  have HTM := Lib.hid (fun W (h : Ints .i64 W W.heap.size a xs) (h2 : Ints .i64 W W.heap.size b ys) => tenMay_any a b c d xs ys W h h2)
  have HSP := Lib.hid (fun W h0 h1 h2 h3 h4 hR hx2 => spatial_any xs a aK aS aP aD c cK cS cP cD wv W h0 h1 h2 h3 h4 hL hR hx2)
  have HL := Lib.hid hL
  have F1 := Lib.hid ((Fr.start (w := w) (I := [(.i64, a, xs), (.i64, b, ys), (.i64, aK, wv.K), (.i64, aS, wv.S), (.i64, aP, wv.P), (.i64, aD, wv.D)]) (by intro z hz; simp at hz; rcases hz with rfl | rfl | rfl | rfl | rfl | rfl; exact h; exact h2; exact hK; exact hS; exact hP; exact hD)).box1 (b := w.heap.size) rfl [.slice a xs.length c, .slice b ys.length d, .slice aK wv.K.length cK, .slice aS wv.S.length cS, .slice aP wv.P.length cP, .slice aD wv.D.length cD] 30)
  simp only [List.nil_append] at F1
  clear h h2 hK hS hP hD hL
  go_enter Try.func6, Try.ntmps6
  go_upto_region 1 with fail
  obtain ⟨W1, hW1⟩ : ∃ W1, w.alloc (.cells #[.slice a xs.length c, .slice b ys.length d, .slice aK wv.K.length cK, .slice aS wv.S.length cS, .slice aP wv.P.length cP, .slice aD wv.D.length cD] 30) = W1 := ⟨_, rfl⟩
  rw [hW1] at F1 ⊢
  clear hW1
  have c0_0 := F1.out.c 0 0 rfl rfl
  have c0_1 := F1.out.c 0 1 rfl rfl
  have c0_2 := F1.out.c 0 2 rfl rfl
  have c0_3 := F1.out.c 0 3 rfl rfl
  have c0_4 := F1.out.c 0 4 rfl rfl
  have c0_5 := F1.out.c 0 5 rfl rfl
  cases hv : (decide ((60 : Int) < ys.length) || decide (8 < xs.length)) with
  | true =>
    rw [hv] at hhv
    go_wp2_with (first | (go_at_call 21; refine (hhv _).mono ?_; rintro e w2 ⟨rfl, hb⟩; have F2 := Lib.hid (F1.out.next hb); clear hb F1 c0_0 c0_1 c0_2 c0_3 c0_4 c0_5; have c0_0 := F2.out.c 0 0 rfl rfl; have c0_1 := F2.out.c 0 1 rfl rfl; have c0_2 := F2.out.c 0 2 rfl rfl; have c0_3 := F2.out.c 0 3 rfl rfl; have c0_4 := F2.out.c 0 4 rfl rfl; have c0_5 := F2.out.c 0 5 rfl rfl) | (go_at_call 22; refine (HLG.out _ (F2.out.lw 2 rfl) (F2.out.lw 3 rfl) (F2.out.lw 4 rfl) (F2.out.lw 5 rfl)).mono ?_; rintro e w3 ⟨rfl, hb⟩; have F3 := Lib.hid (F2.out.next hb); clear hb F2 c0_0 c0_1 c0_2 c0_3 c0_4 c0_5; have c0_0 := F3.out.c 0 0 rfl rfl; have c0_1 := F3.out.c 0 1 rfl rfl; have c0_2 := F3.out.c 0 2 rfl rfl; have c0_3 := F3.out.c 0 3 rfl rfl; have c0_4 := F3.out.c 0 4 rfl rfl; have c0_5 := F3.out.c 0 5 rfl rfl) | (go_at_call 23; refine (HMY.out _ (F3.out.lw 2 rfl) (F3.out.lw 3 rfl) (F3.out.lw 4 rfl) (F3.out.lw 5 rfl)).mono ?_; rintro e w4 ⟨rfl, hb⟩; have F4 := Lib.hid (F3.out.next hb); clear hb F3 c0_0 c0_1 c0_2 c0_3 c0_4 c0_5; have c0_0 := F4.out.c 0 0 rfl rfl; have c0_1 := F4.out.c 0 1 rfl rfl; have c0_2 := F4.out.c 0 2 rfl rfl; have c0_3 := F4.out.c 0 3 rfl rfl; have c0_4 := F4.out.c 0 4 rfl rfl; have c0_5 := F4.out.c 0 5 rfl rfl) | (go_at_call 7; refine (HTM.out _ (F4.out.lw 0 rfl) (F4.out.lw 1 rfl)).mono ?_; rintro e w5 ⟨rfl, hb⟩; have F5 := Lib.hid (F4.out.next hb); clear hb F4 c0_0 c0_1 c0_2 c0_3 c0_4 c0_5; have c0_0 := F5.out.c 0 0 rfl rfl; have c0_1 := F5.out.c 0 1 rfl rfl; have c0_2 := F5.out.c 0 2 rfl rfl; have c0_3 := F5.out.c 0 3 rfl rfl; have c0_4 := F5.out.c 0 4 rfl rfl; have c0_5 := F5.out.c 0 5 rfl rfl) | fail)
    go_ret
    exact ⟨lr_true, F2.out.bel⟩
  | false =>
    rw [hv] at hhv
    have hg12 : ys.length ≤ 60 ∧ xs.length ≤ 8 := by
      simp only [Bool.or_eq_false_iff, decide_eq_false_iff_not] at hv
      omega
    obtain ⟨g1, g2⟩ := hg12
    clear hv
    have hlg := HLG.out
    clear HLG
    cases hg : longB wv.K wv.S wv.P wv.D with
    | true =>
      rw [hg] at hlg
      have HLG := Lib.hid hlg
      clear hlg hg
      go_wp2_with (first | (go_at_call 21; refine (hhv _).mono ?_; rintro e w2 ⟨rfl, hb⟩; have F2 := Lib.hid (F1.out.next hb); clear hb F1 c0_0 c0_1 c0_2 c0_3 c0_4 c0_5; have c0_0 := F2.out.c 0 0 rfl rfl; have c0_1 := F2.out.c 0 1 rfl rfl; have c0_2 := F2.out.c 0 2 rfl rfl; have c0_3 := F2.out.c 0 3 rfl rfl; have c0_4 := F2.out.c 0 4 rfl rfl; have c0_5 := F2.out.c 0 5 rfl rfl) | (go_at_call 22; refine (HLG.out _ (F2.out.lw 2 rfl) (F2.out.lw 3 rfl) (F2.out.lw 4 rfl) (F2.out.lw 5 rfl)).mono ?_; rintro e w3 ⟨rfl, hb⟩; have F3 := Lib.hid (F2.out.next hb); clear hb F2 c0_0 c0_1 c0_2 c0_3 c0_4 c0_5; have c0_0 := F3.out.c 0 0 rfl rfl; have c0_1 := F3.out.c 0 1 rfl rfl; have c0_2 := F3.out.c 0 2 rfl rfl; have c0_3 := F3.out.c 0 3 rfl rfl; have c0_4 := F3.out.c 0 4 rfl rfl; have c0_5 := F3.out.c 0 5 rfl rfl) | (go_at_call 23; refine (HMY.out _ (F3.out.lw 2 rfl) (F3.out.lw 3 rfl) (F3.out.lw 4 rfl) (F3.out.lw 5 rfl)).mono ?_; rintro e w4 ⟨rfl, hb⟩; have F4 := Lib.hid (F3.out.next hb); clear hb F3 c0_0 c0_1 c0_2 c0_3 c0_4 c0_5; have c0_0 := F4.out.c 0 0 rfl rfl; have c0_1 := F4.out.c 0 1 rfl rfl; have c0_2 := F4.out.c 0 2 rfl rfl; have c0_3 := F4.out.c 0 3 rfl rfl; have c0_4 := F4.out.c 0 4 rfl rfl; have c0_5 := F4.out.c 0 5 rfl rfl) | (go_at_call 7; refine (HTM.out _ (F4.out.lw 0 rfl) (F4.out.lw 1 rfl)).mono ?_; rintro e w5 ⟨rfl, hb⟩; have F5 := Lib.hid (F4.out.next hb); clear hb F4 c0_0 c0_1 c0_2 c0_3 c0_4 c0_5; have c0_0 := F5.out.c 0 0 rfl rfl; have c0_1 := F5.out.c 0 1 rfl rfl; have c0_2 := F5.out.c 0 2 rfl rfl; have c0_3 := F5.out.c 0 3 rfl rfl; have c0_4 := F5.out.c 0 4 rfl rfl; have c0_5 := F5.out.c 0 5 rfl rfl) | fail)
      go_ret
      exact ⟨lr_true, F3.out.bel⟩
    | false =>
      rw [hg] at hlg
      have HLG := Lib.hid hlg
      clear hlg hg
      have hmy := HMY.out
      clear HMY
      cases hn : numB true wv.K wv.S wv.P wv.D with
      | true =>
        rw [hn] at hmy
        have HMY := Lib.hid hmy
        clear hmy
        by_cases hx2 : xs.length = 2 + wv.S.length
        · skip
          have hxb : ((xs.length : Int) != (wv.S.length : Int) + 2) = false := bne_eq_false_iff_eq.2 (by omega)
          have HX2 := Lib.hid hx2
          have hwl : IntKind.i64.wrap ((wv.S.length : Int) + 2) = (wv.S.length : Int) + 2 := IntWalk.i64_in _ (by omega)
          have HN := Lib.hid hn
          clear hx2 hn
          have htm := HTM.out
          clear HTM
          cases ht : tenB xs ys with
          | true =>
            rw [ht] at htm
            have HTM := Lib.hid htm
            clear htm
            obtain ⟨hR, hr⟩ := win_R HL.out (tenB_iff.1 ht).1 HN.out HX2.out
            have hlx : xs.length = 2 + wv.L.length := by have := hR.s; have := HX2.out; omega
            have hsp := fun W h0 h1 h2 h3 h4 => HSP.out W h0 h1 h2 h3 h4 hR hlx
            have HSP2 := Lib.hid hsp
            have HR := Lib.hid hR
            clear HSP ht hR hr hlx hsp
            go_upto_region 5 with (first | (go_at_call 21; refine (hhv _).mono ?_; rintro e w2 ⟨rfl, hb⟩; have F2 := Lib.hid (F1.out.next hb); clear hb F1 c0_0 c0_1 c0_2 c0_3 c0_4 c0_5; have c0_0 := F2.out.c 0 0 rfl rfl; have c0_1 := F2.out.c 0 1 rfl rfl; have c0_2 := F2.out.c 0 2 rfl rfl; have c0_3 := F2.out.c 0 3 rfl rfl; have c0_4 := F2.out.c 0 4 rfl rfl; have c0_5 := F2.out.c 0 5 rfl rfl) | (go_at_call 22; refine (HLG.out _ (F2.out.lw 2 rfl) (F2.out.lw 3 rfl) (F2.out.lw 4 rfl) (F2.out.lw 5 rfl)).mono ?_; rintro e w3 ⟨rfl, hb⟩; have F3 := Lib.hid (F2.out.next hb); clear hb F2 c0_0 c0_1 c0_2 c0_3 c0_4 c0_5; have c0_0 := F3.out.c 0 0 rfl rfl; have c0_1 := F3.out.c 0 1 rfl rfl; have c0_2 := F3.out.c 0 2 rfl rfl; have c0_3 := F3.out.c 0 3 rfl rfl; have c0_4 := F3.out.c 0 4 rfl rfl; have c0_5 := F3.out.c 0 5 rfl rfl) | (go_at_call 23; refine (HMY.out _ (F3.out.lw 2 rfl) (F3.out.lw 3 rfl) (F3.out.lw 4 rfl) (F3.out.lw 5 rfl)).mono ?_; rintro e w4 ⟨rfl, hb⟩; have F4 := Lib.hid (F3.out.next hb); clear hb F3 c0_0 c0_1 c0_2 c0_3 c0_4 c0_5; have c0_0 := F4.out.c 0 0 rfl rfl; have c0_1 := F4.out.c 0 1 rfl rfl; have c0_2 := F4.out.c 0 2 rfl rfl; have c0_3 := F4.out.c 0 3 rfl rfl; have c0_4 := F4.out.c 0 4 rfl rfl; have c0_5 := F4.out.c 0 5 rfl rfl) | (go_at_call 7; refine (HTM.out _ (F4.out.lw 0 rfl) (F4.out.lw 1 rfl)).mono ?_; rintro e w5 ⟨rfl, hb⟩; have F5 := Lib.hid (F4.out.next hb); clear hb F4 c0_0 c0_1 c0_2 c0_3 c0_4 c0_5; have c0_0 := F5.out.c 0 0 rfl rfl; have c0_1 := F5.out.c 0 1 rfl rfl; have c0_2 := F5.out.c 0 2 rfl rfl; have c0_3 := F5.out.c 0 3 rfl rfl; have c0_4 := F5.out.c 0 4 rfl rfl; have c0_5 := F5.out.c 0 5 rfl rfl) | fail)
            go_upto_region 6 with (first | (go_at_call 24; refine (HSP2.out _ (F5.out.lw 0 rfl) (F5.out.lw 2 rfl) (F5.out.lw 3 rfl) (F5.out.lw 4 rfl) (F5.out.lw 5 rfl)).mono ?_; rintro e w6 ⟨al, cl, rfl, hf⟩; have F6 := Lib.hid (F5.out.join hf); simp only [List.nil_append] at F6; clear hf F5 c0_0 c0_1 c0_2 c0_3 c0_4 c0_5) | fail)
            clear HSP2 HLG HMY HTM hxb hwl hhv
            cases hok : wv.okB with
            | false =>
              have hbad : Light xs ys wv := light_bad g1 g2 (fun h => by have := (winZ_num h).2.2.2; rw [hok] at this; cases this)
              have hs0 : spO wv = [] := by unfold spO; rw [hok]; rfl
              simp only [hs0, hok, List.length_nil] at F6 ⊢
              clear hs0 hok
              go_wp2
              go_loopw [5, 6] (fun s5 s6 wr => s5 = .int .i64 1 ∧ s6 = .int .i64 0 ∧ Hid (Below w.heap.size w wr)) (fun _ _ _ => 0)
              case atStart => exact ⟨rfl, rfl, Lib.hid F6.out.bel⟩
              case round =>
                obtain ⟨rfl, rfl, HB⟩ := hrel
                obtain ⟨wo, rfl⟩ : ∃ x : World, x = wr := ⟨_, rfl⟩
                clear F6
                go_wp2
                go_ret
                exact ⟨lr_false hbad, HB.out⟩
            | true =>
              have hs0 : spO wv = wv.O := by unfold spO; rw [hok]; rfl
              simp only [hs0, hok] at F6 ⊢
              have hR := HR.out
              have hob : ∀ i, i < wv.L.length → 1 ≤ wv.out i ∧ wv.out i ≤ 12288 := fun i hi => hR.out_pos hi (WinV.ok_room hok hi)
              have hOw : ∀ x ∈ wv.O, (Lit.int .i64 x).wf = true := fun x hx => by
                unfold WinV.O at hx
                obtain ⟨i, hi, rfl⟩ := List.mem_map.1 hx
                have := hob i (List.mem_range.1 hi)
                exact wf_i64_iff.2 ⟨by omega, by omega⟩
              obtain ⟨r, hrr⟩ : ∃ r, wv.L.length = r := ⟨_, rfl⟩
              have hOl := wv.O_len
              have hlK := hR.k
              have hr2 := hR.r
              have hget := fun i (hi : i < r) => WinV.O_get wv (i := i) (by omega)
              have hdk := fun i (hi : i < r) => hR.dk i (by omega)
              have hob2 := fun i (hi : i < r) => hob i (by omega)
              rw [hrr] at hOl hlK hr2
              have hlight : prodI wv.K ≤ 2000 → Light xs ys wv := fun h => ⟨g1, g2, fun _ => goodB_iff.2 ⟨by omega, hR.dimsK, by omega⟩⟩
              have HOW := Lib.hid hOw
              have HGET := Lib.hid hget
              have HDK := Lib.hid hdk
              have HOB := Lib.hid hob2
              have HLI := Lib.hid hlight
              have HOL := Lib.hid hOl
              have HLK := Lib.hid hlK
              clear hs0 hok hob hOw hget hdk hob2 hlight HL HN HX2 HR hR hOl hlK hrr
              go_wp2
              go_loopw [5, 6] (fun s5 s6 wr => ∃ (j : Nat) (n : Int), j ≤ r ∧ s6 = .int .i64 j ∧ s5 = .int .i64 n ∧ Hid (1 ≤ n ∧ prodI (wv.K.take j) ≤ n ∧ (j = 0 → n = 1) ∧ (j = 1 → n ≤ 90000)) ∧ Hid (Fr w.heap.size w wr [(w.heap.size, [.slice a xs.length c, .slice b ys.length d, .slice aK wv.K.length cK, .slice aS wv.S.length cS, .slice aP wv.P.length cP, .slice aD wv.D.length cD])] [(.i64, a, xs), (.i64, b, ys), (.i64, aK, wv.K), (.i64, aS, wv.S), (.i64, aP, wv.P), (.i64, aD, wv.D)] [⟨3, .slice al wv.O.length cl, wv.O.length, wv.O.map (Value.int .i64)⟩] [])) (fun _ s6 _ => r - (intOf s6).toNat)
              case atStart => exact ⟨0, 1, Nat.zero_le _, rfl, rfl, Lib.hid ⟨by omega, by simp [prodI], by omega, by omega⟩, F6⟩
              case round =>
                obtain ⟨j, n, hj, rfl, rfl, HN, F7⟩ := hrel
                clear F6
                obtain ⟨wo, rfl⟩ : ∃ x : World, x = wr := ⟨_, rfl⟩
                have hn := HN.out
                clear HN
                by_cases hlt : j < r
                · skip
                  have hjO : j < wv.O.length := by rw [HOL.out]; exact hlt
                  have hjK : j < wv.K.length := by rw [HLK.out]; exact hlt
                  have hjOi : (j : Int) < (wv.O.length : Int) := by omega
                  have hjKi : (j : Int) < (wv.K.length : Int) := by omega
                  have ho := HOB.out j hlt
                  have hk := HDK.out j hlt
                  rw [← HGET.out j hlt] at ho
                  obtain ⟨gO, oO, rfl, _, hcO⟩ := (F7.out.li 0 (k := .i64) (xs := wv.O) rfl HOW.out).cell j hjO
                  obtain ⟨gK, oK, rfl, _, hcK⟩ := (F7.out.l 2 rfl).cell j hjK
                  have hts : prodI (wv.K.take (j + 1)) = prodI (wv.K.take j) * (wv.K[j]?.getD 0) := by rw [take_snoc wv.K j hjK, prodI_snoc9, List.getElem?_eq_getElem hjK]; rfl
                  obtain ⟨ov, hov⟩ : ∃ z, wv.O[j]?.getD 0 = z := ⟨_, rfl⟩
                  obtain ⟨kv, hkv⟩ : ∃ z, wv.K[j]?.getD 0 = z := ⟨_, rfl⟩
                  rw [hov] at hcO ho
                  rw [hkv] at hcK hk hts
                  have HOV := Lib.hid hov
                  have HKV := Lib.hid hkv
                  clear hov hkv
                  have c0_0 := F7.out.c 0 0 rfl rfl
                  have c0_1 := F7.out.c 0 1 rfl rfl
                  have c0_2 := F7.out.c 0 2 rfl rfl
                  have c0_3 := F7.out.c 0 3 rfl rfl
                  have c0_4 := F7.out.c 0 4 rfl rfl
                  have c0_5 := F7.out.c 0 5 rfl rfl
                  by_cases h3 : (300 : Int) < ov
                  · skip
                    clear ho hk hts hn
                    go_wp2
                    go_ret
                    exact ⟨lr_true, F7.out.bel⟩
                  by_cases h4 : (300 : Int) < kv
                  · skip
                    clear ho hk hts hn
                    go_wp2
                    go_ret
                    exact ⟨lr_true, F7.out.bel⟩
                  go_upto_region 12 with fail
                  obtain ⟨p1, hp1⟩ : ∃ z, n * ov = z := ⟨_, rfl⟩
                  obtain ⟨p2, hp2⟩ : ∃ z, p1 * kv = z := ⟨_, rfl⟩
                  have hn9 : n ≤ 90000 := by rcases (show j = 0 ∨ j = 1 by omega) with h | h; have := hn.2.2.1 h; omega; exact hn.2.2.2 h
                  have hb1 := mul_le4096 (A := 90000) (B := 300) (a := n) (b := ov) (by omega) hn9 (by omega) (by omega)
                  rw [hp1] at hb1
                  have hb2 := mul_le4096 (A := 90000 * 300) (B := 300) (a := p1) (b := kv) hb1.1 hb1.2 (by omega) (by omega)
                  rw [hp2] at hb2
                  have hge1 : n ≤ p1 := by rw [← hp1]; exact le_mul_one (by omega) ho.1
                  have hge2 : p1 ≤ p2 := by rw [← hp2]; exact le_mul_one (by omega) hk.1
                  have hpk : prodI (wv.K.take (j + 1)) ≤ p2 := by rw [hts, ← hp2]; exact Int.mul_le_mul_of_nonneg_right (by omega) (by omega)
                  have hj0 : j = 0 → p2 ≤ 90000 := fun h => by
                    have h1 := hn.2.2.1 h
                    rw [h1, Int.one_mul] at hp1
                    have := mul_le4096 (A := 300) (B := 300) (a := p1) (b := kv) (by omega) (by omega) (by omega) (by omega)
                    rw [hp2] at this
                    omega
                  have HW1 := Lib.hid (show IntKind.i64.wrap (n * ov) = p1 by rw [hp1]; exact IntWalk.i64_in _ (by omega))
                  have HW2 := Lib.hid (show IntKind.i64.wrap (p1 * kv) = p2 by rw [hp2]; exact IntWalk.i64_in _ (by omega))
                  have HREL : Hid (1 ≤ p2 ∧ prodI (wv.K.take (j + 1)) ≤ p2 ∧ (j + 1 = 0 → p2 = 1) ∧ (j + 1 = 1 → p2 ≤ 90000)) := Lib.hid ⟨by omega, hpk, by omega, fun h => hj0 (by omega)⟩
                  clear hp1 hp2 hn hn9 hb1 hb2 hge1 hge2 hpk hj0 hts h3 h4 ho hk
                  have hw1 := HW1.out
                  have hw2 := HW2.out
                  go_quiet (fail)
                  go_wp2
                  go_roundw
                  case rel => exact ⟨j + 1, p2, by omega, by go_num, rfl, HREL, by first | exact Lib.hid F7.out.drew | exact Lib.hid (F7.out.drewN _) | exact F7⟩
                  case measure => simp [intOf]; omega
                · obtain rfl : j = r := by omega
                  have hpk := hn.2.1
                  rw [List.take_of_length_le (by rw [HLK.out]; exact Nat.le_refl _)] at hpk
                  have hol := HOL.out
                  have hol2 : (wv.O.length : Int) = (j : Int) := by omega
                  have hol3 : ¬ (j : Int) < (wv.O.length : Int) := by omega
                  by_cases h5 : (2000 : Int) < n
                  · skip
                    clear hn hpk hol hol2
                    go_wp2
                    go_ret
                    exact ⟨lr_true, F7.out.bel⟩
                  · have hli := HLI.out (by omega)
                    clear hn hpk hol hol2
                    go_wp2
                    go_ret
                    exact ⟨lr_false hli, F7.out.bel⟩
          | false =>
            rw [ht] at htm
            have HTM := Lib.hid htm
            clear htm
            have hbad : Light xs ys wv := light_bad g1 g2 (fun h => by have := (winZ_num h).1; rw [ht] at this; cases this)
            clear ht
            go_wp2_with (first | (go_at_call 21; refine (hhv _).mono ?_; rintro e w2 ⟨rfl, hb⟩; have F2 := Lib.hid (F1.out.next hb); clear hb F1 c0_0 c0_1 c0_2 c0_3 c0_4 c0_5; have c0_0 := F2.out.c 0 0 rfl rfl; have c0_1 := F2.out.c 0 1 rfl rfl; have c0_2 := F2.out.c 0 2 rfl rfl; have c0_3 := F2.out.c 0 3 rfl rfl; have c0_4 := F2.out.c 0 4 rfl rfl; have c0_5 := F2.out.c 0 5 rfl rfl) | (go_at_call 22; refine (HLG.out _ (F2.out.lw 2 rfl) (F2.out.lw 3 rfl) (F2.out.lw 4 rfl) (F2.out.lw 5 rfl)).mono ?_; rintro e w3 ⟨rfl, hb⟩; have F3 := Lib.hid (F2.out.next hb); clear hb F2 c0_0 c0_1 c0_2 c0_3 c0_4 c0_5; have c0_0 := F3.out.c 0 0 rfl rfl; have c0_1 := F3.out.c 0 1 rfl rfl; have c0_2 := F3.out.c 0 2 rfl rfl; have c0_3 := F3.out.c 0 3 rfl rfl; have c0_4 := F3.out.c 0 4 rfl rfl; have c0_5 := F3.out.c 0 5 rfl rfl) | (go_at_call 23; refine (HMY.out _ (F3.out.lw 2 rfl) (F3.out.lw 3 rfl) (F3.out.lw 4 rfl) (F3.out.lw 5 rfl)).mono ?_; rintro e w4 ⟨rfl, hb⟩; have F4 := Lib.hid (F3.out.next hb); clear hb F3 c0_0 c0_1 c0_2 c0_3 c0_4 c0_5; have c0_0 := F4.out.c 0 0 rfl rfl; have c0_1 := F4.out.c 0 1 rfl rfl; have c0_2 := F4.out.c 0 2 rfl rfl; have c0_3 := F4.out.c 0 3 rfl rfl; have c0_4 := F4.out.c 0 4 rfl rfl; have c0_5 := F4.out.c 0 5 rfl rfl) | (go_at_call 7; refine (HTM.out _ (F4.out.lw 0 rfl) (F4.out.lw 1 rfl)).mono ?_; rintro e w5 ⟨rfl, hb⟩; have F5 := Lib.hid (F4.out.next hb); clear hb F4 c0_0 c0_1 c0_2 c0_3 c0_4 c0_5; have c0_0 := F5.out.c 0 0 rfl rfl; have c0_1 := F5.out.c 0 1 rfl rfl; have c0_2 := F5.out.c 0 2 rfl rfl; have c0_3 := F5.out.c 0 3 rfl rfl; have c0_4 := F5.out.c 0 4 rfl rfl; have c0_5 := F5.out.c 0 5 rfl rfl) | fail)
            go_ret
            exact ⟨lr_false hbad, F5.out.bel⟩
        · skip
          have hxb : ((xs.length : Int) != (wv.S.length : Int) + 2) = true := by rw [bne_iff_ne]; omega
          have hbad : Light xs ys wv := light_bad g1 g2 (fun h => hx2 (winZ_num h).2.2.1)
          by_cases hsl : wv.S.length ≤ 6
          · skip
            have hwl : IntKind.i64.wrap ((wv.S.length : Int) + 2) = (wv.S.length : Int) + 2 := IntWalk.i64_in _ (by omega)
            clear hx2 hn hsl
            go_wp2_with (first | (go_at_call 21; refine (hhv _).mono ?_; rintro e w2 ⟨rfl, hb⟩; have F2 := Lib.hid (F1.out.next hb); clear hb F1 c0_0 c0_1 c0_2 c0_3 c0_4 c0_5; have c0_0 := F2.out.c 0 0 rfl rfl; have c0_1 := F2.out.c 0 1 rfl rfl; have c0_2 := F2.out.c 0 2 rfl rfl; have c0_3 := F2.out.c 0 3 rfl rfl; have c0_4 := F2.out.c 0 4 rfl rfl; have c0_5 := F2.out.c 0 5 rfl rfl) | (go_at_call 22; refine (HLG.out _ (F2.out.lw 2 rfl) (F2.out.lw 3 rfl) (F2.out.lw 4 rfl) (F2.out.lw 5 rfl)).mono ?_; rintro e w3 ⟨rfl, hb⟩; have F3 := Lib.hid (F2.out.next hb); clear hb F2 c0_0 c0_1 c0_2 c0_3 c0_4 c0_5; have c0_0 := F3.out.c 0 0 rfl rfl; have c0_1 := F3.out.c 0 1 rfl rfl; have c0_2 := F3.out.c 0 2 rfl rfl; have c0_3 := F3.out.c 0 3 rfl rfl; have c0_4 := F3.out.c 0 4 rfl rfl; have c0_5 := F3.out.c 0 5 rfl rfl) | (go_at_call 23; refine (HMY.out _ (F3.out.lw 2 rfl) (F3.out.lw 3 rfl) (F3.out.lw 4 rfl) (F3.out.lw 5 rfl)).mono ?_; rintro e w4 ⟨rfl, hb⟩; have F4 := Lib.hid (F3.out.next hb); clear hb F3 c0_0 c0_1 c0_2 c0_3 c0_4 c0_5; have c0_0 := F4.out.c 0 0 rfl rfl; have c0_1 := F4.out.c 0 1 rfl rfl; have c0_2 := F4.out.c 0 2 rfl rfl; have c0_3 := F4.out.c 0 3 rfl rfl; have c0_4 := F4.out.c 0 4 rfl rfl; have c0_5 := F4.out.c 0 5 rfl rfl) | (go_at_call 7; refine (HTM.out _ (F4.out.lw 0 rfl) (F4.out.lw 1 rfl)).mono ?_; rintro e w5 ⟨rfl, hb⟩; have F5 := Lib.hid (F4.out.next hb); clear hb F4 c0_0 c0_1 c0_2 c0_3 c0_4 c0_5; have c0_0 := F5.out.c 0 0 rfl rfl; have c0_1 := F5.out.c 0 1 rfl rfl; have c0_2 := F5.out.c 0 2 rfl rfl; have c0_3 := F5.out.c 0 3 rfl rfl; have c0_4 := F5.out.c 0 4 rfl rfl; have c0_5 := F5.out.c 0 5 rfl rfl) | fail)
            go_ret
            exact ⟨lr_false hbad, F4.out.bel⟩
          · exact absurd (num_iff.1 hn).1.2.1 (by omega)
      | false =>
        rw [hn] at hmy
        have HMY := Lib.hid hmy
        clear hmy
        have hbad : Light xs ys wv := light_bad g1 g2 (fun h => by have := (winZ_num h).2.1; rw [hn] at this; cases this)
        clear hn
        go_wp2_with (first | (go_at_call 21; refine (hhv _).mono ?_; rintro e w2 ⟨rfl, hb⟩; have F2 := Lib.hid (F1.out.next hb); clear hb F1 c0_0 c0_1 c0_2 c0_3 c0_4 c0_5; have c0_0 := F2.out.c 0 0 rfl rfl; have c0_1 := F2.out.c 0 1 rfl rfl; have c0_2 := F2.out.c 0 2 rfl rfl; have c0_3 := F2.out.c 0 3 rfl rfl; have c0_4 := F2.out.c 0 4 rfl rfl; have c0_5 := F2.out.c 0 5 rfl rfl) | (go_at_call 22; refine (HLG.out _ (F2.out.lw 2 rfl) (F2.out.lw 3 rfl) (F2.out.lw 4 rfl) (F2.out.lw 5 rfl)).mono ?_; rintro e w3 ⟨rfl, hb⟩; have F3 := Lib.hid (F2.out.next hb); clear hb F2 c0_0 c0_1 c0_2 c0_3 c0_4 c0_5; have c0_0 := F3.out.c 0 0 rfl rfl; have c0_1 := F3.out.c 0 1 rfl rfl; have c0_2 := F3.out.c 0 2 rfl rfl; have c0_3 := F3.out.c 0 3 rfl rfl; have c0_4 := F3.out.c 0 4 rfl rfl; have c0_5 := F3.out.c 0 5 rfl rfl) | (go_at_call 23; refine (HMY.out _ (F3.out.lw 2 rfl) (F3.out.lw 3 rfl) (F3.out.lw 4 rfl) (F3.out.lw 5 rfl)).mono ?_; rintro e w4 ⟨rfl, hb⟩; have F4 := Lib.hid (F3.out.next hb); clear hb F3 c0_0 c0_1 c0_2 c0_3 c0_4 c0_5; have c0_0 := F4.out.c 0 0 rfl rfl; have c0_1 := F4.out.c 0 1 rfl rfl; have c0_2 := F4.out.c 0 2 rfl rfl; have c0_3 := F4.out.c 0 3 rfl rfl; have c0_4 := F4.out.c 0 4 rfl rfl; have c0_5 := F4.out.c 0 5 rfl rfl) | (go_at_call 7; refine (HTM.out _ (F4.out.lw 0 rfl) (F4.out.lw 1 rfl)).mono ?_; rintro e w5 ⟨rfl, hb⟩; have F5 := Lib.hid (F4.out.next hb); clear hb F4 c0_0 c0_1 c0_2 c0_3 c0_4 c0_5; have c0_0 := F5.out.c 0 0 rfl rfl; have c0_1 := F5.out.c 0 1 rfl rfl; have c0_2 := F5.out.c 0 2 rfl rfl; have c0_3 := F5.out.c 0 3 rfl rfl; have c0_4 := F5.out.c 0 4 rfl rfl; have c0_5 := F5.out.c 0 5 rfl rfl) | fail)
        go_ret
        exact ⟨lr_false hbad, F4.out.bel⟩
end Go.Proofs.Ytmjcpgfekpedkaa
