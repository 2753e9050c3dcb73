/- The law PoolMoves, walked. -/
import Derived.Test.YtmjcpgfekpedkaaPoY
set_option linter.unusedVariables false
set_option linter.unusedSimpArgs false
namespace Go.Proofs.Ytmjcpgfekpedkaa
open Go.RowKit Go.Rt
attribute [local go_sem] Oper.semAt_some
set_option maxHeartbeats 1000000 in
theorem ref2Add_any (x y z : Int) (w : World) (hx : -9223372036854775808 ≤ x ∧ x ≤ 9223372036854775807) (hy : -9223372036854775808 ≤ y ∧ y ≤ 9223372036854775807) (hz : x + y = z) :
    Calls Try.prog 9 #[.int .i64 x, .int .i64 y] w fun e w' => RetV (wordV z) (wordE z) e ∧ Below w.heap.size w w' := by
  have h1 := Lib.hid (fun w => zfrom_any x w hx.1 hx.2)
  have h2 := Lib.hid (fun w => zfrom_any y w hy.1 hy.2)
  have h3 := Lib.hid (fun p q c d w h h' => zplus_any p q c d x y z w h h' (dig_word (by omega)) (dig_word (by omega)) hz)
  have h4 := Lib.hid (fun p c w h => ref2Word_any p c z w h)
  have M1 : True := trivial
  clear hx hy hz
  go_enter Try.func9, Try.ntmps9
  go_wp2_with (first
    | (go_at_call 31; have hmk := M1; clear hmk M1; refine (h1.out _).mono ?_; rintro e w1 ⟨a1, c1, rfl, hN1, hb⟩; have HB1 := Lib.hid hb; have HN1 := Lib.hid hN1; clear hb hN1)
    | (go_at_call 31; refine (h2.out _).mono ?_; rintro e w2 ⟨a2, c2, rfl, hN2, hb⟩; have HB2 := Lib.hid hb; have HN2 := Lib.hid hN2; clear hb hN2)
    | (go_at_call 30; refine (h3.out _ _ _ _ _ (HN1.out.next HB2.out) HN2.out).mono ?_; rintro e w3 ⟨a3, c3, rfl, hN3, hb⟩; have HB3 := Lib.hid hb; have HN3 := Lib.hid hN3; clear hb hN3)
    | (go_at_call 29; refine (h4.out _ _ _ HN3.out).mono ?_; rintro e w4 ⟨he, hb⟩; unfold RetV at he; subst he; have HB4 := Lib.hid hb; clear hb) | fail)
  go_ret2
  exact ⟨rfl, HB1.out.trans ((HB2.out.trans ((HB3.out.trans (HB4.out.mono HB3.out.size)).mono HB2.out.size)).mono HB1.out.size)⟩

set_option maxRecDepth 100000 in
set_option maxHeartbeats 8000000 in
theorem poolMoves_any (q : Option Addr) (n c0 : Nat) (w : World) (h : AsksAt12 w w.heap.size q n) :
    Calls Try.prog 3 #[.slice q n c0] w fun e w' => e = .returned (.bool true) ∧ Below w.heap.size w w' := by
  have hm := h.len
  go_enter Try.func3, Try.ntmps3
  go_wp2_with fail
  go_loopw [3] (fun i wr => ∃ k : Nat, k ≤ n ∧ i = .int .i64 k ∧ Below w.heap.size w wr) (fun i _ => n - (intOf i).toNat)
  case atStart => exact ⟨0, Nat.zero_le _, rfl, Below.refl _ _⟩
  case round =>
    obtain ⟨k, hk, rfl, hbel⟩ := hrel
    obtain ⟨wo, rfl⟩ : ∃ wo : World, wo = wr := ⟨_, rfl⟩
    by_cases hend : k < n ∧ k < 5
    · obtain ⟨hlt, h20⟩ := hend
      obtain ⟨b0, o_, ⟨a, c, b, d, xs, ys⟩, aK, aS, aP, aD, cK, cS, cP, cD, K, S, P, D, rfl, ht⟩ := h.at_ k hlt
      replace ht := ht.below hbel
      have hsz := hbel.size
      have HB := Lib.hid hbel
      obtain ⟨wv, hwv⟩ : ∃ v : WinV, v = ⟨xs.drop 2, K, S, P, D⟩ := ⟨_, rfl⟩
      obtain ⟨rfl, rfl, rfl, rfl⟩ : K = wv.K ∧ S = wv.S ∧ P = wv.P ∧ D = wv.D := by rw [hwv]; exact ⟨rfl, rfl, rfl, rfl⟩
      have hL : wv.L = xs.drop 2 := by rw [hwv]
      clear hwv
      have HL := Lib.hid hL
      have tA := ht.tA
      dsimp only at tA
      have hl1 := tA.sh.len
      have hl2 := tA.da.len
      have HI0 := Lib.hid (tA.sh.mono hsz)
      have HI1 := Lib.hid (tA.da.mono hsz)
      have HI2 := Lib.hid (ht.tK.mono hsz)
      have HI3 := Lib.hid (ht.tS.mono hsz)
      have HI4 := Lib.hid (ht.tP.mono hsz)
      have HI5 := Lib.hid (ht.tD.mono hsz)
      have HC1 := Lib.hid (And.intro tA.c1 tA.c2)
      have HC2 := Lib.hid (And.intro tA.d1 tA.d2)
      have HHV := Lib.hid (fun W h h2 hK hS hP hD => heavy12_any a b c d xs ys aK aS aP aD cK cS cP cD wv W h h2 hK hS hP hD hL)
      have HTM := Lib.hid (fun W (h : Ints .i64 W W.heap.size a xs) (h2 : Ints .i64 W W.heap.size b ys) => tenMay_any a b c d xs ys W h h2)
      have q0 := ht.c0
      have q1 := ht.c1
      have q2 := ht.c2
      have q3 := ht.c3
      have q4 := ht.c4
      have q5 := ht.c5
      dsimp only at q0 q1 q2 q3 q4 q5
      clear ht tA hbel h hL
      have F1 := Lib.hid ((Fr.start (w := wo) (I := [(.i64, a, xs), (.i64, b, ys), (.i64, aK, wv.K), (.i64, aS, wv.S), (.i64, aP, wv.P), (.i64, aD, wv.D)]) (by intro z hz; simp at hz; rcases hz with rfl | rfl | rfl | rfl | rfl | rfl; exact HI0.out; exact HI1.out; exact HI2.out; exact HI3.out; exact HI4.out; exact HI5.out)).box1 (b := wo.heap.size) rfl [.slice a xs.length c, .slice b ys.length d, .slice aK wv.K.length cK, .slice aS wv.S.length cS, .slice aP wv.P.length cP, .slice aD wv.D.length cD] 30)
      simp only [List.nil_append] at F1
      go_upto_region 5 with fail
      obtain ⟨W1, hW1⟩ : ∃ W1, wo.alloc (.cells #[.slice a xs.length c, .slice b ys.length d, .slice aK wv.K.length cK, .slice aS wv.S.length cS, .slice aP wv.P.length cP, .slice aD wv.D.length cD] 30) = W1 := ⟨_, rfl⟩
      rw [hW1] at F1 ⊢
      clear hW1 q0 q1 q2 q3 q4 q5
      have c0_0 := F1.out.c 0 0 rfl rfl
      have c0_1 := F1.out.c 0 1 rfl rfl
      have c0_2 := F1.out.c 0 2 rfl rfl
      have c0_3 := F1.out.c 0 3 rfl rfl
      have c0_4 := F1.out.c 0 4 rfl rfl
      have c0_5 := F1.out.c 0 5 rfl rfl
      have htm := HTM.out
      clear HTM
      cases htb : tenB xs ys with
      | false =>
        rw [htb] at htm
        have HTM := Lib.hid htm
        clear htm htb
        go_upto_if 44 with (first | (go_at_call 6; refine (HHV.out W1 (F1.out.lw 0 rfl) (F1.out.lw 1 rfl) (F1.out.lw 2 rfl) (F1.out.lw 3 rfl) (F1.out.lw 4 rfl) (F1.out.lw 5 rfl)).mono ?_; rintro e w2 ⟨⟨hvB, rfl, hlt9⟩, hb⟩; have F2 := Lib.hid (F1.out.next hb); have HLT := Lib.hid hlt9; clear hb hlt9 F1 c0_0 c0_1 c0_2 c0_3 c0_4 c0_5; have c0_0 := F2.out.c 0 0 rfl rfl; have c0_1 := F2.out.c 0 1 rfl rfl; have c0_2 := F2.out.c 0 2 rfl rfl; have c0_3 := F2.out.c 0 3 rfl rfl; have c0_4 := F2.out.c 0 4 rfl rfl; have c0_5 := F2.out.c 0 5 rfl rfl; cases hvB) | (go_at_call 7; refine (HTM.out _ (F2.out.lw 0 rfl) (F2.out.lw 1 rfl)).mono ?_; rintro e w3 ⟨rfl, hb⟩; have F3 := Lib.hid (F2.out.next hb); clear hb F2 c0_0 c0_1 c0_2 c0_3 c0_4 c0_5; have c0_0 := F3.out.c 0 0 rfl rfl; have c0_1 := F3.out.c 0 1 rfl rfl; have c0_2 := F3.out.c 0 2 rfl rfl; have c0_3 := F3.out.c 0 3 rfl rfl; have c0_4 := F3.out.c 0 4 rfl rfl; have c0_5 := F3.out.c 0 5 rfl rfl) | fail)
        · go_wp2
          go_roundw
          case rel => exact ⟨k + 1, by omega, by go_num, HB.out.trans (F3.out.bel.mono HB.out.size)⟩
          case measure => simp [intOf]; omega
        · go_wp2
          go_roundw
          case rel => exact ⟨k + 1, by omega, by go_num, HB.out.trans (F2.out.bel.mono HB.out.size)⟩
          case measure => simp [intOf]; omega
      | true =>
        rw [htb] at htm
        have HTM := Lib.hid htm
        have HTB := Lib.hid htb
        clear htm htb
        go_upto_if 44 with (first | (go_at_call 6; refine (HHV.out W1 (F1.out.lw 0 rfl) (F1.out.lw 1 rfl) (F1.out.lw 2 rfl) (F1.out.lw 3 rfl) (F1.out.lw 4 rfl) (F1.out.lw 5 rfl)).mono ?_; rintro e w2 ⟨⟨hvB, rfl, hlt9⟩, hb⟩; have F2 := Lib.hid (F1.out.next hb); have HLT := Lib.hid hlt9; clear hb hlt9 F1 c0_0 c0_1 c0_2 c0_3 c0_4 c0_5; have c0_0 := F2.out.c 0 0 rfl rfl; have c0_1 := F2.out.c 0 1 rfl rfl; have c0_2 := F2.out.c 0 2 rfl rfl; have c0_3 := F2.out.c 0 3 rfl rfl; have c0_4 := F2.out.c 0 4 rfl rfl; have c0_5 := F2.out.c 0 5 rfl rfl; cases hvB) | (go_at_call 7; refine (HTM.out _ (F2.out.lw 0 rfl) (F2.out.lw 1 rfl)).mono ?_; rintro e w3 ⟨rfl, hb⟩; have F3 := Lib.hid (F2.out.next hb); clear hb F2 c0_0 c0_1 c0_2 c0_3 c0_4 c0_5; have c0_0 := F3.out.c 0 0 rfl rfl; have c0_1 := F3.out.c 0 1 rfl rfl; have c0_2 := F3.out.c 0 2 rfl rfl; have c0_3 := F3.out.c 0 3 rfl rfl; have c0_4 := F3.out.c 0 4 rfl rfl; have c0_5 := F3.out.c 0 5 rfl rfl) | fail)
        rotate_left
        · go_wp2
          go_roundw
          case rel => exact ⟨k + 1, by omega, by go_num, HB.out.trans (F2.out.bel.mono HB.out.size)⟩
          case measure => simp [intOf]; omega
        obtain ⟨g1, g2, hgK⟩ : Light xs ys wv := by first | exact HLT.out rfl | exact HLT.out trivial
        clear HLT HTM HHV
        have HGK := Lib.hid hgK
        clear hgK
        have hct := fun W (h : Ints .i64 W W.heap.size a xs) (h2 : Ints .i64 W W.heap.size b ys) => copyTen_any a b c d xs ys W h h2 (by omega) (by omega)
        have HCT := Lib.hid hct
        clear hct
        go_upto_region 7 with (first | (go_at_call 8; refine (HCT.out _ (F3.out.lw 0 rfl) (F3.out.lw 1 rfl)).mono ?_; rintro e w4 ⟨a4, c4, b4, d4, rfl, hf⟩; have F4 := Lib.hid (F3.out.join hf); simp only [List.nil_append] at F4; clear hf F3 c0_0 c0_1 c0_2 c0_3 c0_4 c0_5) | fail)
        obtain ⟨b4', d4', he, hsh⟩ := own_shape (F4.out.r 1 rfl)
        simp only [Value.slice.injEq] at he
        obtain ⟨rfl, _, rfl⟩ := he
        have hyp : 0 < ys.length := by have := goodB_prod (tenB_iff.1 HTB.out).1; have := (tenB_iff.1 HTB.out).2.1; omega
        obtain ⟨gx, rfl, _⟩ := hsh.resolve_left (show ¬ ys.length = 0 by omega)
        have hcap := own_capP (F4.out.r 0 rfl)
        have HCP := Lib.hid hcap
        clear hcap hsh hyp
        obtain ⟨Q5, hQ5⟩ : ∃ x, w4.heap.size = x := ⟨_, rfl⟩
        rw [hQ5]
        have F5 := Lib.hid (F4.out.box1 (b := Q5) hQ5 [.slice a4 xs.length c4, .slice (some ⟨gx, 0, none⟩) ys.length d4] 26)
        simp only [List.nil_append, List.cons_append] at F5
        obtain ⟨W5, hW5⟩ : ∃ x, (w4.alloc (.cells #[.slice a4 xs.length c4, .slice (some ⟨gx, 0, none⟩) ys.length d4] 26)) = x := ⟨_, rfl⟩
        rw [hW5] at F5 ⊢
        clear hW5 hQ5 F4
        have F6 := F5
        skip
        go_wp2
        go_loopw [6, 7, 8, 9] (fun s6 s7 s8 s9 wr => ∃ (j : Nat) (B : Bool), j ≤ ys.length ∧ s7 = .int .i64 j ∧ s6 = .bool B ∧ Hid (B = true → (∀ y ∈ ys.take j, isW (y + 54321) = true)) ∧ Hid (Fr wo.heap.size wo wr [(wo.heap.size, [.slice a xs.length c, .slice b ys.length d, .slice aK wv.K.length cK, .slice aS wv.S.length cS, .slice aP wv.P.length cP, .slice aD wv.D.length cD]), (Q5, [.slice a4 xs.length c4, .slice (some ⟨gx, 0, none⟩) ys.length d4])] [(.i64, a, xs), (.i64, b, ys), (.i64, aK, wv.K), (.i64, aS, wv.S), (.i64, aP, wv.P), (.i64, aD, wv.D)] [⟨3, .slice a4 xs.length c4, xs.length, xs.map (Value.int .i64)⟩, ⟨2, .slice (some ⟨gx, 0, none⟩) ys.length d4, ys.length, (mixU (fun y => wordV (y + 54321)) ys j).map (Value.int .i64)⟩] [])) (fun _ s7 _ _ _ => ys.length - (intOf s7).toNat)
        case atStart => exact ⟨0, true, Nat.zero_le _, rfl, rfl, Lib.hid (fun _ y hy => by simp at hy), by rw [mixU_zero]; exact F5⟩
        case round =>
          obtain ⟨j, B, hj, rfl, rfl, HOK, F6⟩ := hrel
          clear F5
          obtain ⟨wi, rfl⟩ : ∃ x : World, x = wr := ⟨_, rfl⟩
          by_cases hlj : j < ys.length
          · as_aux_lemma =>
            have hji : (j : Int) < (ys.length : Int) := by omega
            obtain ⟨y, hy⟩ : ∃ y, ys[j]?.getD 0 = y := ⟨_, rfl⟩
            have hyw : isW y = true := (tenB_iff.1 HTB.out).2.2 y (by rw [← hy, List.getElem?_eq_getElem hlj]; exact List.getElem_mem hlj)
            have hyb := isW_iff.1 hyw
            have had := fun W => ref2Add_any y 54321 (y + 54321) W ⟨by omega, by omega⟩ ⟨by omega, by omega⟩ rfl
            have HAD := Lib.hid had
            have HY := Lib.hid hy
            clear had hyb hyw
            have hg6 : ((mixU (fun y => wordV (y + 54321)) ys j).map (Value.int .i64))[j]? = some (.int .i64 y) := by rw [List.getElem?_map, mixU_get _ _ hlj, hy]; rfl
            have hrx := (F6.out.rc 1 j rfl hg6).1
            clear hg6 hy
            have c1_0 := F6.out.c 1 0 rfl rfl
            have c1_1 := F6.out.c 1 1 rfl rfl
            go_upto_region 12 with (first | (go_at_call 9; refine (HAD.out _).mono ?_; rintro e w7 ⟨he, hb⟩; unfold RetV at he; subst he; have F7 := Lib.hid (F6.out.next hb); clear hb F6 hrx c1_0 c1_1) | fail)
            obtain ⟨V, hV⟩ : ∃ x, wordV (y + 54321) = x := ⟨_, rfl⟩
            obtain ⟨E, hE⟩ : ∃ x, wordE (y + 54321) = x := ⟨_, rfl⟩
            rw [hV, hE]
            have HV := Lib.hid hV
            have HE := Lib.hid hE
            clear hV hE
            have hg6 : ((mixU (fun y => wordV (y + 54321)) ys j).map (Value.int .i64))[j]? = some (.int .i64 y) := by rw [List.getElem?_map, mixU_get _ _ hlj, HY.out]; rfl
            have hrx := (F7.out.rc 1 j rfl hg6).2
            have hrc := (F7.out.rc 1 j rfl hg6).1
            clear hg6
            have c1_0 := F7.out.c 1 0 rfl rfl
            have c1_1 := F7.out.c 1 1 rfl rfl
            go_upto_region 13 with fail
            have F8 := Lib.hid (F7.out.put 1 j rfl (.int .i64 V))
            simp only [List.set_cons_zero, List.set_cons_succ] at F8
            have hset : ((mixU (fun y => wordV (y + 54321)) ys j).map (Value.int .i64)).set j (.int .i64 V) = (mixU (fun y => wordV (y + 54321)) ys (j + 1)).map (Value.int .i64) := by rw [← List.map_set, ← mixU_set _ _ hlj, HY.out, HV.out]
            rw [hset] at F8
            obtain ⟨w8, h8⟩ : ∃ x, w7.setCell ⟨gx, j, none⟩ (.int .i64 V) = x := ⟨_, rfl⟩
            rw [h8] at F8 ⊢
            clear h8 F7 hset hrx hrc c1_0 c1_1
            have hst : ∀ y0, y0 ∈ ys.take (j + 1) → y0 ∈ ys.take j ∨ y0 = y := fun y0 h0 => by
              rw [List.take_add_one, List.getElem?_eq_getElem hlj] at h0
              have hq := HY.out
              rw [List.getElem?_eq_getElem hlj] at hq
              rcases List.mem_append.1 h0 with h1 | h1
              · exact .inl h1
              · simp at h1; exact .inr (by rw [h1]; simpa using hq)
            have HST := Lib.hid hst
            clear hst
            cases B with
            | true =>
              by_cases he0 : E = 0
              · subst he0
                go_wp2
                go_roundw
                case rel => exact ⟨j + 1, true, by omega, by go_num, rfl, Lib.hid (fun _ y0 h0 => by rcases HST.out y0 h0 with h1 | rfl; exact HOK.out rfl y0 h1; have := HE.out; unfold wordE at this; split at this; assumption; cases this), F8⟩
                case measure => simp [intOf]; omega
              · skip
                have he1 : (E == 0) = false := beq_eq_false_iff_ne.2 he0
                clear he0
                go_wp2
                go_roundw
                case rel => exact ⟨j + 1, false, by omega, by go_num, rfl, Lib.hid (fun h => by cases h), F8⟩
                case measure => simp [intOf]; omega
            | false =>
              go_wp2
              go_roundw
              case rel => exact ⟨j + 1, false, by omega, by go_num, rfl, Lib.hid (fun h => by cases h), F8⟩
              case measure => simp [intOf]; omega
          · as_aux_lemma =>
            obtain rfl : j = ys.length := by omega
            rw [mixU_all] at F6
            have c0_0 := F6.out.c 0 0 rfl rfl
            have c0_1 := F6.out.c 0 1 rfl rfl
            have c0_2 := F6.out.c 0 2 rfl rfl
            have c0_3 := F6.out.c 0 3 rfl rfl
            have c0_4 := F6.out.c 0 4 rfl rfl
            have c0_5 := F6.out.c 0 5 rfl rfl
            have c1_0 := F6.out.c 1 0 rfl rfl
            have c1_1 := F6.out.c 1 1 rfl rfl
            cases B with
            | false =>
              go_wp2
              go_roundw
              case rel => exact ⟨k + 1, by omega, by go_num, HB.out.trans (F6.out.bel.mono HB.out.size)⟩
              case measure => simp [intOf]; omega
            | true =>
              obtain ⟨HL0, ht0⟩ := And.intro HL.out HTB.out
              have hwy : ∀ y ∈ ys, isW (y + 54321) = true := fun y hy => HOK.out rfl y (by rw [List.take_length]; exact hy)
              have hup : ys.map (fun y => wordV (y + 54321)) = upL 54321 ys := List.map_congr_left fun y hy => by unfold wordV; rw [if_pos (hwy y hy)]
              rw [hup] at F6
              obtain ⟨z, SH, YS, PS, AS, YT, AT, ⟨z1, z2⟩, ⟨s1, s2, s3, s4⟩, ⟨t2, t3, t4⟩, ⟨l1, l2, l3, l4⟩, fY, fA, fP⟩ := up_letters HL0 ht0 hwy
              obtain ⟨UL, hUL⟩ : ∃ l, upL 54321 ys = l := ⟨_, rfl⟩
              have hul : UL.length = ys.length := by rw [← hUL, upL_len]
              rw [hUL] at F6 z2 t2 t3 t4
              have hUw : ∀ y ∈ UL, (Lit.int .i64 y).wf = true := fun y hy => by rw [← hUL] at hy; obtain ⟨u, hu, rfl⟩ := List.mem_map.1 hy; have := isW_iff.1 (hwy u hu); exact wf_i64_iff.2 ⟨by omega, by omega⟩
              have hgk := HGK.out
              have hm1 := fun W h h2 hK hS hP hD => pmax_all a b c d xs ys aK aS aP aD cK cS cP cD wv W h h2 hK hS hP hD HL0 HC1.out.1 HC1.out.2 hgk
              have hv1 := fun W h h2 hK hS hP hD => pavg_all a b c d xs ys aK aS aP aD cK cS cP cD wv W h h2 hK hS hP hD HL0 HC1.out.1 HC1.out.2 hgk
              have hgk2 : winZ xs UL wv = 0 → goodB wv.K = true := fun h => hgk (by rw [z1, ← z2]; exact h)
              have hm2 := fun W h h2 hK hS hP hD => pmax_all a4 (some ⟨gx, 0, none⟩) c4 d4 xs UL aK aS aP aD cK cS cP cD wv W h h2 hK hS hP hD HL0 HCP.out.1 HCP.out.2 hgk2
              have hv2 := fun W h h2 hK hS hP hD => pavg_all a4 (some ⟨gx, 0, none⟩) c4 d4 xs UL aK aS aP aD cK cS cP cD wv W h h2 hK hS hP hD HL0 HCP.out.1 HCP.out.2 hgk2
              rw [z1, s1, s2, s3] at hm1
              rw [z1, s1, s4] at hv1
              rw [z2, s1, t2, t3, hul] at hm2
              rw [z2, s1, t4, hul] at hv2
              have hXw : ∀ x ∈ xs, (Lit.int .i64 x).wf = true := HI0.out.wf
              have hPw : ∀ x ∈ PS, (Lit.int .i64 x).wf = true := wf_dims fP
              have HM1 := Lib.hid hm1
              have HV1 := Lib.hid hv1
              have HM2 := Lib.hid hm2
              have HV2 := Lib.hid hv2
              have HUW := Lib.hid hUw
              have HXW := Lib.hid hXw
              have HPW := Lib.hid hPw
              have FY := Lib.hid fY
              have FA := Lib.hid fA
              have L1 := Lib.hid l1
              have L2 := Lib.hid l2
              have HULL := Lib.hid hul
              clear hm1 hv1 hm2 hv2 hUw hXw hPw fY fA fP l1 l2 hul hgk hgk2 hwy hup HL0 ht0 z1 z2 s1 s2 s3 s4 t2 t3 t4 HOK HGK HCT
              have hUr : ys.length = UL.length := HULL.out.symm
              have HUR := Lib.hid hUr
              clear hUr
              go_upto_region 16 with (first | (go_at_call 10; refine (HM1.out _ (F6.out.lw 0 rfl) (F6.out.lw 1 rfl) (F6.out.lw 2 rfl) (F6.out.lw 3 rfl) (F6.out.lw 4 rfl) (F6.out.lw 5 rfl)).mono ?_; rintro e w9 ⟨a5, c5, b5, d5, p5, q5, rfl, hf⟩; have F9 := Lib.hid (F6.out.join hf); simp only [List.nil_append, List.cons_append] at F9; clear hf F6 c0_0 c0_1 c0_2 c0_3 c0_4 c0_5 c1_0 c1_1) | fail)
              obtain ⟨Q10, hQ10⟩ : ∃ x, w9.heap.size = x := ⟨_, rfl⟩
              rw [hQ10]
              have F10 := Lib.hid (F9.out.box1 (b := Q10) hQ10 [.slice a5 SH.length c5, .slice b5 YS.length d5] 26)
              simp only [List.nil_append, List.cons_append] at F10
              obtain ⟨W10, hW10⟩ : ∃ x, (w9.alloc (.cells #[.slice a5 SH.length c5, .slice b5 YS.length d5] 26)) = x := ⟨_, rfl⟩
              rw [hW10] at F10 ⊢
              clear hW10 hQ10 F9
              have c0_0 := F10.out.c 0 0 rfl rfl
              have c0_1 := F10.out.c 0 1 rfl rfl
              have c0_2 := F10.out.c 0 2 rfl rfl
              have c0_3 := F10.out.c 0 3 rfl rfl
              have c0_4 := F10.out.c 0 4 rfl rfl
              have c0_5 := F10.out.c 0 5 rfl rfl
              have c1_0 := F10.out.c 1 0 rfl rfl
              have c1_1 := F10.out.c 1 1 rfl rfl
              go_upto_region 17 with (first | (go_at_call 10; refine (HM2.out _ (F10.out.li 0 (k := .i64) (xs := xs) rfl HXW.out) (F10.out.li 1 (k := .i64) (xs := UL) rfl HUW.out) (F10.out.lw 2 rfl) (F10.out.lw 3 rfl) (F10.out.lw 4 rfl) (F10.out.lw 5 rfl)).mono ?_; rintro e w11 ⟨a6, c6, b6, d6, p6, q6, rfl, hf⟩; have F11 := Lib.hid (F10.out.join hf); simp only [List.nil_append, List.cons_append] at F11; clear hf F10 c0_0 c0_1 c0_2 c0_3 c0_4 c0_5 c1_0 c1_1) | fail)
              obtain ⟨Q12, hQ12⟩ : ∃ x, w11.heap.size = x := ⟨_, rfl⟩
              rw [hQ12]
              have F12 := Lib.hid (F11.out.box1 (b := Q12) hQ12 [.slice a6 SH.length c6, .slice b6 YT.length d6] 26)
              simp only [List.nil_append, List.cons_append] at F12
              obtain ⟨W12, hW12⟩ : ∃ x, (w11.alloc (.cells #[.slice a6 SH.length c6, .slice b6 YT.length d6] 26)) = x := ⟨_, rfl⟩
              rw [hW12] at F12 ⊢
              clear hW12 hQ12 F11
              have c0_0 := F12.out.c 0 0 rfl rfl
              have c0_1 := F12.out.c 0 1 rfl rfl
              have c0_2 := F12.out.c 0 2 rfl rfl
              have c0_3 := F12.out.c 0 3 rfl rfl
              have c0_4 := F12.out.c 0 4 rfl rfl
              have c0_5 := F12.out.c 0 5 rfl rfl
              go_upto_region 18 with (first | (go_at_call 11; refine (HV1.out _ (F12.out.lw 0 rfl) (F12.out.lw 1 rfl) (F12.out.lw 2 rfl) (F12.out.lw 3 rfl) (F12.out.lw 4 rfl) (F12.out.lw 5 rfl)).mono ?_; rintro e w13 ⟨a7, c7, b7, d7, rfl, hf⟩; have F13 := Lib.hid (F12.out.join hf); simp only [List.nil_append, List.cons_append] at F13; clear hf F12 c0_0 c0_1 c0_2 c0_3 c0_4 c0_5) | fail)
              obtain ⟨Q14, hQ14⟩ : ∃ x, w13.heap.size = x := ⟨_, rfl⟩
              rw [hQ14]
              have F14 := Lib.hid (F13.out.box1 (b := Q14) hQ14 [.slice a7 SH.length c7, .slice b7 AS.length d7] 26)
              simp only [List.nil_append, List.cons_append] at F14
              obtain ⟨W14, hW14⟩ : ∃ x, (w13.alloc (.cells #[.slice a7 SH.length c7, .slice b7 AS.length d7] 26)) = x := ⟨_, rfl⟩
              rw [hW14] at F14 ⊢
              clear hW14 hQ14 F13
              have c0_0 := F14.out.c 0 0 rfl rfl
              have c0_1 := F14.out.c 0 1 rfl rfl
              have c0_2 := F14.out.c 0 2 rfl rfl
              have c0_3 := F14.out.c 0 3 rfl rfl
              have c0_4 := F14.out.c 0 4 rfl rfl
              have c0_5 := F14.out.c 0 5 rfl rfl
              have c1_0 := F14.out.c 1 0 rfl rfl
              have c1_1 := F14.out.c 1 1 rfl rfl
              go_upto_region 19 with (first | (go_at_call 11; refine (HV2.out _ (F14.out.li 0 (k := .i64) (xs := xs) rfl HXW.out) (F14.out.li 1 (k := .i64) (xs := UL) rfl HUW.out) (F14.out.lw 2 rfl) (F14.out.lw 3 rfl) (F14.out.lw 4 rfl) (F14.out.lw 5 rfl)).mono ?_; rintro e w15 ⟨a8, c8, b8, d8, rfl, hf⟩; have F15 := Lib.hid (F14.out.join hf); simp only [List.nil_append, List.cons_append] at F15; clear hf F14 c0_0 c0_1 c0_2 c0_3 c0_4 c0_5 c1_0 c1_1) | fail)
              obtain ⟨Q16, hQ16⟩ : ∃ x, w15.heap.size = x := ⟨_, rfl⟩
              rw [hQ16]
              have F16 := Lib.hid (F15.out.box1 (b := Q16) hQ16 [.slice a8 SH.length c8, .slice b8 AT.length d8] 26)
              simp only [List.nil_append, List.cons_append] at F16
              obtain ⟨W16, hW16⟩ : ∃ x, (w15.alloc (.cells #[.slice a8 SH.length c8, .slice b8 AT.length d8] 26)) = x := ⟨_, rfl⟩
              rw [hW16] at F16 ⊢
              clear hW16 hQ16 F15
              have hzz : (z != z) = false := by simp
              have hb1 : ((YS.length : Int) != (YT.length : Int)) = false := by rw [L1.out]; simp
              have hb2 : ((AS.length : Int) != (AT.length : Int)) = false := by rw [L2.out]; simp
              have HEN := Lib.hid (fun W (h : Ints .i64 W W.heap.size p5 PS) (h2 : Ints .i64 W W.heap.size p6 PS) => eqNumbers_any p5 p6 q5 q6 W.heap.size PS PS W h h2)
              have c2_0 := F16.out.c 2 0 rfl rfl
              have c2_1 := F16.out.c 2 1 rfl rfl
              have c3_0 := F16.out.c 3 0 rfl rfl
              have c3_1 := F16.out.c 3 1 rfl rfl
              have c4_0 := F16.out.c 4 0 rfl rfl
              have c4_1 := F16.out.c 4 1 rfl rfl
              have c5_0 := F16.out.c 5 0 rfl rfl
              have c5_1 := F16.out.c 5 1 rfl rfl
              go_upto_region 21 with (first | (go_at_call 12; refine (num12_any _ _).mono ?_; rintro e w' ⟨rfl, rfl⟩) | (go_at_call 13; refine (HEN.out _ (F16.out.li 4 (k := .i64) (xs := PS) rfl HPW.out) (F16.out.li 7 (k := .i64) (xs := PS) rfl HPW.out)).mono ?_; rintro e w17 ⟨rfl, q17, rfl⟩; have F17 := Lib.hid (F16.out.drewN q17); clear F16 c2_0 c2_1 c3_0 c3_1 c4_0 c4_1 c5_0 c5_1; have c2_0 := F17.out.c 2 0 rfl rfl; have c2_1 := F17.out.c 2 1 rfl rfl; have c3_0 := F17.out.c 3 0 rfl rfl; have c3_1 := F17.out.c 3 1 rfl rfl; have c4_0 := F17.out.c 4 0 rfl rfl; have c4_1 := F17.out.c 4 1 rfl rfl; have c5_0 := F17.out.c 5 0 rfl rfl; have c5_1 := F17.out.c 5 1 rfl rfl) | fail)
              clear hzz hb1 hb2 c2_0 c2_1 c3_0 c3_1 c4_0 c4_1 c5_0 c5_1
              go_wp2
              go_loopw [20] (fun s20  wr => ∃ j : Nat, j ≤ YS.length ∧ s20 = .int .i64 j ∧ Hid (Fr wo.heap.size wo wr [(wo.heap.size, [.slice a xs.length c, .slice b ys.length d, .slice aK wv.K.length cK, .slice aS wv.S.length cS, .slice aP wv.P.length cP, .slice aD wv.D.length cD]), (Q5, [.slice a4 xs.length c4, .slice (some ⟨gx, 0, none⟩) ys.length d4]), (Q10, [.slice a5 SH.length c5, .slice b5 YS.length d5]), (Q12, [.slice a6 SH.length c6, .slice b6 YT.length d6]), (Q14, [.slice a7 SH.length c7, .slice b7 AS.length d7]), (Q16, [.slice a8 SH.length c8, .slice b8 AT.length d8])] [(.i64, a, xs), (.i64, b, ys), (.i64, aK, wv.K), (.i64, aS, wv.S), (.i64, aP, wv.P), (.i64, aD, wv.D)] [⟨3, .slice a4 xs.length c4, xs.length, xs.map (Value.int .i64)⟩, ⟨2, .slice (some ⟨gx, 0, none⟩) ys.length d4, ys.length, UL.map (Value.int .i64)⟩, ⟨3, .slice a5 SH.length c5, SH.length, SH.map (Value.int .i64)⟩, ⟨2, .slice b5 YS.length d5, YS.length, YS.map (Value.int .i64)⟩, ⟨3, .slice p5 PS.length q5, PS.length, PS.map (Value.int .i64)⟩, ⟨3, .slice a6 SH.length c6, SH.length, SH.map (Value.int .i64)⟩, ⟨2, .slice b6 YT.length d6, YT.length, YT.map (Value.int .i64)⟩, ⟨3, .slice p6 PS.length q6, PS.length, PS.map (Value.int .i64)⟩, ⟨3, .slice a7 SH.length c7, SH.length, SH.map (Value.int .i64)⟩, ⟨2, .slice b7 AS.length d7, AS.length, AS.map (Value.int .i64)⟩, ⟨3, .slice a8 SH.length c8, SH.length, SH.map (Value.int .i64)⟩, ⟨2, .slice b8 AT.length d8, AT.length, AT.map (Value.int .i64)⟩] [])) (fun s20  _ => YS.length - (intOf s20).toNat)
              case atStart => exact ⟨0, Nat.zero_le _, rfl, F17⟩
              case round =>
                obtain ⟨j, hj, rfl, F18⟩ := hrel
                clear F17
                obtain ⟨wi, rfl⟩ : ∃ x : World, x = wr := ⟨_, rfl⟩
                have c2_0 := F18.out.c 2 0 rfl rfl
                have c2_1 := F18.out.c 2 1 rfl rfl
                have c3_0 := F18.out.c 3 0 rfl rfl
                have c3_1 := F18.out.c 3 1 rfl rfl
                by_cases hlj : j < YS.length
                · as_aux_lemma =>
                  have hji : (j : Int) < (YS.length : Int) := by omega
                  have hjt : (j : Int) < (YT.length : Int) := by have := L1.out; omega
                  obtain ⟨u9, v9, gu, gv, wu, wv9, hd⟩ := FY.out j hlj
                  have bu := isW_iff.1 wu
                  have bv := isW_iff.1 wv9
                  have gu2 : (YS.map (Value.int .i64))[j]? = some (.int .i64 u9) := by rw [List.getElem?_map, gu]; rfl
                  have gv2 : (YT.map (Value.int .i64))[j]? = some (.int .i64 v9) := by rw [List.getElem?_map, gv]; rfl
                  obtain ⟨ba', da', he, hsh⟩ := own_shape (F18.out.r 3 rfl)
                  simp only [Value.slice.injEq] at he
                  obtain ⟨rfl, _, rfl⟩ := he
                  obtain ⟨ga, rfl, _⟩ := hsh.resolve_left (show ¬ YS.length = 0 by omega)
                  obtain ⟨bb', db', he, hsh⟩ := own_shape (F18.out.r 6 rfl)
                  simp only [Value.slice.injEq] at he
                  obtain ⟨rfl, _, rfl⟩ := he
                  obtain ⟨gb, rfl, _⟩ := hsh.resolve_left (show ¬ YT.length = 0 by omega)
                  have ru := (F18.out.rc 3 j rfl gu2).1
                  have rv := (F18.out.rc 6 j rfl gv2).1
                  have HJ2 := Lib.hid hlj
                  have hsb : IntKind.i64.wrap (v9 - u9) = 54321 := by rw [hd]; rfl
                  clear gu gv wu wv9 gu2 gv2 hd bu bv
                  go_upto_region 24 with fail
                  go_quiet (fail)
                  go_wp2
                  go_roundw
                  case rel => exact ⟨j + 1, HJ2.out, by go_num, Lib.hid (F18.out.drewN _)⟩
                  case measure => have hj9 := HJ2.out; simp [intOf]; omega
                · as_aux_lemma =>
                  obtain rfl : j = YS.length := by omega
                  go_upto_region 26 with fail
                  clear c2_0 c2_1 c3_0 c3_1
                  go_wp2
                  go_loopw [21, 22] (fun s21 s22 wr => ∃ j : Nat, j ≤ AS.length ∧ s21 = .int .i64 j ∧ Hid (Fr wo.heap.size wo wr [(wo.heap.size, [.slice a xs.length c, .slice b ys.length d, .slice aK wv.K.length cK, .slice aS wv.S.length cS, .slice aP wv.P.length cP, .slice aD wv.D.length cD]), (Q5, [.slice a4 xs.length c4, .slice (some ⟨gx, 0, none⟩) ys.length d4]), (Q10, [.slice a5 SH.length c5, .slice b5 YS.length d5]), (Q12, [.slice a6 SH.length c6, .slice b6 YT.length d6]), (Q14, [.slice a7 SH.length c7, .slice b7 AS.length d7]), (Q16, [.slice a8 SH.length c8, .slice b8 AT.length d8])] [(.i64, a, xs), (.i64, b, ys), (.i64, aK, wv.K), (.i64, aS, wv.S), (.i64, aP, wv.P), (.i64, aD, wv.D)] [⟨3, .slice a4 xs.length c4, xs.length, xs.map (Value.int .i64)⟩, ⟨2, .slice (some ⟨gx, 0, none⟩) ys.length d4, ys.length, UL.map (Value.int .i64)⟩, ⟨3, .slice a5 SH.length c5, SH.length, SH.map (Value.int .i64)⟩, ⟨2, .slice b5 YS.length d5, YS.length, YS.map (Value.int .i64)⟩, ⟨3, .slice p5 PS.length q5, PS.length, PS.map (Value.int .i64)⟩, ⟨3, .slice a6 SH.length c6, SH.length, SH.map (Value.int .i64)⟩, ⟨2, .slice b6 YT.length d6, YT.length, YT.map (Value.int .i64)⟩, ⟨3, .slice p6 PS.length q6, PS.length, PS.map (Value.int .i64)⟩, ⟨3, .slice a7 SH.length c7, SH.length, SH.map (Value.int .i64)⟩, ⟨2, .slice b7 AS.length d7, AS.length, AS.map (Value.int .i64)⟩, ⟨3, .slice a8 SH.length c8, SH.length, SH.map (Value.int .i64)⟩, ⟨2, .slice b8 AT.length d8, AT.length, AT.map (Value.int .i64)⟩] [])) (fun s21 _ _ => AS.length - (intOf s21).toNat)
                  case atStart => exact ⟨0, Nat.zero_le _, rfl, F18⟩
                  case round =>
                    obtain ⟨j, hj, rfl, F19⟩ := hrel
                    clear F18
                    obtain ⟨wi, rfl⟩ : ∃ x : World, x = wr := ⟨_, rfl⟩
                    have c4_0 := F19.out.c 4 0 rfl rfl
                    have c4_1 := F19.out.c 4 1 rfl rfl
                    have c5_0 := F19.out.c 5 0 rfl rfl
                    have c5_1 := F19.out.c 5 1 rfl rfl
                    by_cases hlj : j < AS.length
                    · as_aux_lemma =>
                      have hji : (j : Int) < (AS.length : Int) := by omega
                      have hjt : (j : Int) < (AT.length : Int) := by have := L2.out; omega
                      obtain ⟨u9, v9, gu, gv, wu, wv9, hd3, hd4⟩ := FA.out j hlj
                      have bu := isW_iff.1 wu
                      have bv := isW_iff.1 wv9
                      have gu2 : (AS.map (Value.int .i64))[j]? = some (.int .i64 u9) := by rw [List.getElem?_map, gu]; rfl
                      have gv2 : (AT.map (Value.int .i64))[j]? = some (.int .i64 v9) := by rw [List.getElem?_map, gv]; rfl
                      obtain ⟨ba', da', he, hsh⟩ := own_shape (F19.out.r 9 rfl)
                      simp only [Value.slice.injEq] at he
                      obtain ⟨rfl, _, rfl⟩ := he
                      obtain ⟨ga, rfl, _⟩ := hsh.resolve_left (show ¬ AS.length = 0 by omega)
                      obtain ⟨bb', db', he, hsh⟩ := own_shape (F19.out.r 11 rfl)
                      simp only [Value.slice.injEq] at he
                      obtain ⟨rfl, _, rfl⟩ := he
                      obtain ⟨gb, rfl, _⟩ := hsh.resolve_left (show ¬ AT.length = 0 by omega)
                      have ru := (F19.out.rc 9 j rfl gu2).1
                      have rv := (F19.out.rc 11 j rfl gv2).1
                      have HJ2 := Lib.hid hlj
                      obtain ⟨D, hD⟩ : ∃ D, v9 - u9 - 54321 = D := ⟨_, rfl⟩
                      have hsb : IntKind.i64.wrap (v9 - u9) = v9 - u9 := IntWalk.i64_in _ (by omega)
                      have hsc : IntKind.i64.wrap (v9 - u9 - 54321) = D := by rw [hD]; exact IntWalk.i64_in _ (by omega)
                      have hd1 : ¬ (1 : Int) < D := by omega
                      have hd2 : ¬ D < -1 := by omega
                      clear gu gv wu wv9 gu2 gv2 hd3 hd4 bu bv hD
                      go_upto_region 29 with fail
                      go_quiet (fail)
                      go_wp2
                      go_roundw
                      case rel => exact ⟨j + 1, HJ2.out, by go_num, Lib.hid (F19.out.drewN _)⟩
                      case measure => have hj9 := HJ2.out; simp [intOf]; omega
                    · as_aux_lemma =>
                      obtain rfl : j = AS.length := by omega
                      go_wp2
                      go_roundw
                      case rel => exact ⟨k + 1, by omega, by go_num, HB.out.trans (F19.out.bel.mono HB.out.size)⟩
                      case measure => simp [intOf]; omega
    · have HB := Lib.hid hbel
      clear hbel h
      have WK := fun W => Lib.hid (wakes12_any W)
      by_cases hlt : k < n
      · have hk15 : ¬ (k : Int) < 5 := by omega
        have hkn : (k : Int) < n := by omega
        go_wp2_with (go_at_call 14; refine ((WK _).out).mono ?_; rintro e w1 ⟨rfl, hb⟩; have HW1 := Lib.hid hb; clear hb)
        go_ret
        exact ⟨rfl, HB.out.trans (HW1.out.mono HB.out.size)⟩
      · obtain rfl : k = n := by omega
        go_wp2_with (go_at_call 14; refine ((WK _).out).mono ?_; rintro e w1 ⟨rfl, hb⟩; have HW1 := Lib.hid hb; clear hb)
        go_ret
        exact ⟨rfl, HB.out.trans (HW1.out.mono HB.out.size)⟩
end Go.Proofs.Ytmjcpgfekpedkaa
