/- The law PoolWhole, walked. -/
import Derived.Test.YtmjcpgfekpedkaaPoZ
set_option linter.unusedVariables false
set_option linter.unusedSimpArgs false
namespace Go.Proofs.Ytmjcpgfekpedkaa
open Go.RowKit Go.Rt
attribute [local go_sem] Oper.semAt_some
set_option maxRecDepth 100000 in
set_option maxHeartbeats 8000000 in
theorem poolWhole_any (q : Option Addr) (n c0 : Nat) (w : World) (h : AsksAt12 w w.heap.size q n) :
    Calls Try.prog 5 #[.slice q n c0] w fun e w' => e = .returned (.bool true) ∧ Below w.heap.size w w' := by
  have hm := h.len
  go_enter Try.func5, Try.ntmps5
  go_wp2_with fail
  go_loopw [3] (fun i wr => ∃ k : Nat, k ≤ n ∧ i = .int .i64 k ∧ Below w.heap.size w wr) (fun i _ => n - (intOf i).toNat)
  case atStart => exact ⟨0, Nat.zero_le _, rfl, Below.refl _ _⟩
  case round =>
    obtain ⟨k, hk, rfl, hbel⟩ := hrel
    obtain ⟨wo, rfl⟩ : ∃ wo : World, wo = wr := ⟨_, rfl⟩
    by_cases hend : k < n ∧ k < 5
    · obtain ⟨hlt, h20⟩ := hend
      obtain ⟨b0, o_, ⟨a, c, b, d, xs, ys⟩, aK, aS, aP, aD, cK, cS, cP, cD, K, S, P, D, rfl, ht⟩ := h.at_ k hlt
      replace ht := ht.below hbel
      have hsz := hbel.size
      have HB := Lib.hid hbel
      obtain ⟨wv, hwv⟩ : ∃ v : WinV, v = ⟨xs.drop 2, K, S, P, D⟩ := ⟨_, rfl⟩
      obtain ⟨rfl, rfl, rfl, rfl⟩ : K = wv.K ∧ S = wv.S ∧ P = wv.P ∧ D = wv.D := by rw [hwv]; exact ⟨rfl, rfl, rfl, rfl⟩
      have hL : wv.L = xs.drop 2 := by rw [hwv]
      clear hwv
      have HL := Lib.hid hL
      have tA := ht.tA
      dsimp only at tA
      have hl1 := tA.sh.len
      have hl2 := tA.da.len
      have HI0 := Lib.hid (tA.sh.mono hsz)
      have HI1 := Lib.hid (tA.da.mono hsz)
      have HI2 := Lib.hid (ht.tK.mono hsz)
      have HI3 := Lib.hid (ht.tS.mono hsz)
      have HI4 := Lib.hid (ht.tP.mono hsz)
      have HI5 := Lib.hid (ht.tD.mono hsz)
      have HC1 := Lib.hid (And.intro tA.c1 tA.c2)
      have HC2 := Lib.hid (And.intro tA.d1 tA.d2)
      have HHV := Lib.hid (fun W h h2 hK hS hP hD => heavy12_any a b c d xs ys aK aS aP aD cK cS cP cD wv W h h2 hK hS hP hD hL)
      have HTM := Lib.hid (fun W (h : Ints .i64 W W.heap.size a xs) (h2 : Ints .i64 W W.heap.size b ys) => tenMay_any a b c d xs ys W h h2)
      have q0 := ht.c0
      have q1 := ht.c1
      have q2 := ht.c2
      have q3 := ht.c3
      have q4 := ht.c4
      have q5 := ht.c5
      dsimp only at q0 q1 q2 q3 q4 q5
      clear ht tA hbel h hL
      have F1 := Lib.hid ((Fr.start (w := wo) (I := [(.i64, a, xs), (.i64, b, ys), (.i64, aK, wv.K), (.i64, aS, wv.S), (.i64, aP, wv.P), (.i64, aD, wv.D)]) (by intro z hz; simp at hz; rcases hz with rfl | rfl | rfl | rfl | rfl | rfl; exact HI0.out; exact HI1.out; exact HI2.out; exact HI3.out; exact HI4.out; exact HI5.out)).box1 (b := wo.heap.size) rfl [.slice a xs.length c, .slice b ys.length d, .slice aK wv.K.length cK, .slice aS wv.S.length cS, .slice aP wv.P.length cP, .slice aD wv.D.length cD] 30)
      simp only [List.nil_append] at F1
      go_upto_region 5 with fail
      obtain ⟨W1, hW1⟩ : ∃ W1, wo.alloc (.cells #[.slice a xs.length c, .slice b ys.length d, .slice aK wv.K.length cK, .slice aS wv.S.length cS, .slice aP wv.P.length cP, .slice aD wv.D.length cD] 30) = W1 := ⟨_, rfl⟩
      rw [hW1] at F1 ⊢
      clear hW1 q0 q1 q2 q3 q4 q5
      have c0_0 := F1.out.c 0 0 rfl rfl
      have c0_1 := F1.out.c 0 1 rfl rfl
      have c0_2 := F1.out.c 0 2 rfl rfl
      have c0_3 := F1.out.c 0 3 rfl rfl
      have c0_4 := F1.out.c 0 4 rfl rfl
      have c0_5 := F1.out.c 0 5 rfl rfl
      go_upto_if 33 with (first | (go_at_call 6; refine (HHV.out W1 (F1.out.lw 0 rfl) (F1.out.lw 1 rfl) (F1.out.lw 2 rfl) (F1.out.lw 3 rfl) (F1.out.lw 4 rfl) (F1.out.lw 5 rfl)).mono ?_; rintro e w2 ⟨⟨hvB, rfl, hlt9⟩, hb⟩; have F2 := Lib.hid (F1.out.next hb); have HLT := Lib.hid hlt9; clear hb hlt9 F1 c0_0 c0_1 c0_2 c0_3 c0_4 c0_5; have c0_0 := F2.out.c 0 0 rfl rfl; have c0_1 := F2.out.c 0 1 rfl rfl; have c0_2 := F2.out.c 0 2 rfl rfl; have c0_3 := F2.out.c 0 3 rfl rfl; have c0_4 := F2.out.c 0 4 rfl rfl; have c0_5 := F2.out.c 0 5 rfl rfl) | fail)
      cases hvB with
      | true =>
        go_wp2
        go_ret
        exact ⟨rfl, HB.out.trans (F2.out.bel.mono HB.out.size)⟩
      | false =>
        obtain ⟨g1, g2, hgK⟩ := HLT.out rfl
        clear HLT hgK
        have htm := HTM.out
        clear HTM HHV
        cases htb : tenB xs ys with
        | false =>
          rw [htb] at htm
          have HTM := Lib.hid htm
          clear htm htb
          go_wp2_with (first | (go_at_call 7; refine (HTM.out _ (F2.out.lw 0 rfl) (F2.out.lw 1 rfl)).mono ?_; rintro e w3 ⟨rfl, hb⟩; have F3 := Lib.hid (F2.out.next hb); clear hb F2 c0_0 c0_1 c0_2 c0_3 c0_4 c0_5; have c0_0 := F3.out.c 0 0 rfl rfl; have c0_1 := F3.out.c 0 1 rfl rfl; have c0_2 := F3.out.c 0 2 rfl rfl; have c0_3 := F3.out.c 0 3 rfl rfl; have c0_4 := F3.out.c 0 4 rfl rfl; have c0_5 := F3.out.c 0 5 rfl rfl) | fail)
          go_roundw
          case rel => exact ⟨k + 1, by omega, by go_num, HB.out.trans (F3.out.bel.mono HB.out.size)⟩
          case measure => simp [intOf]; omega
        | true =>
          rw [htb] at htm
          have HTM := Lib.hid htm
          clear htm
          by_cases hx3 : xs.length = 3
          rotate_left
          · skip
            have hx3b : ((xs.length : Int) != 3) = true := by simp; omega
            clear htb hx3
            go_wp2_with (first | (go_at_call 7; refine (HTM.out _ (F2.out.lw 0 rfl) (F2.out.lw 1 rfl)).mono ?_; rintro e w3 ⟨rfl, hb⟩; have F3 := Lib.hid (F2.out.next hb); clear hb F2 c0_0 c0_1 c0_2 c0_3 c0_4 c0_5; have c0_0 := F3.out.c 0 0 rfl rfl; have c0_1 := F3.out.c 0 1 rfl rfl; have c0_2 := F3.out.c 0 2 rfl rfl; have c0_3 := F3.out.c 0 3 rfl rfl; have c0_4 := F3.out.c 0 4 rfl rfl; have c0_5 := F3.out.c 0 5 rfl rfl) | fail)
            go_roundw
            case rel => exact ⟨k + 1, by omega, by go_num, HB.out.trans (F3.out.bel.mono HB.out.size)⟩
            case measure => simp [intOf]; omega
          have hx3b : ((xs.length : Int) != 3) = false := by rw [hx3]; rfl
          obtain ⟨n3, hn3, hn1, hn2, hws⟩ := whole_letters htb hx3
          have HWS := Lib.hid hws
          have HTB := Lib.hid htb
          have HX3 := Lib.hid hx3
          have HN3 := Lib.hid hn3
          clear hws htb hx3 hn3
          go_upto_region 8 with (first | (go_at_call 7; refine (HTM.out _ (F2.out.lw 0 rfl) (F2.out.lw 1 rfl)).mono ?_; rintro e w3 ⟨rfl, hb⟩; have F3 := Lib.hid (F2.out.next hb); clear hb F2 c0_0 c0_1 c0_2 c0_3 c0_4 c0_5; have c0_0 := F3.out.c 0 0 rfl rfl; have c0_1 := F3.out.c 0 1 rfl rfl; have c0_2 := F3.out.c 0 2 rfl rfl; have c0_3 := F3.out.c 0 3 rfl rfl; have c0_4 := F3.out.c 0 4 rfl rfl; have c0_5 := F3.out.c 0 5 rfl rfl) | fail)
          obtain ⟨ga, oa, he, _, hcx⟩ := (F3.out.l 0 rfl).cell 2 (by have := HX3.out; omega)
          rw [HN3.out] at hcx
          have hx4 : (2 : Int) < (xs.length : Int) := by have := HX3.out; omega
          subst he
          go_upto_region 9 with fail
          clear hcx
          have hwi := fun W => within0_any (n3 : Int) 3 W ⟨by omega, by omega⟩ (by omega) (by omega)
          have hwb := withinN_bound (n3 : Int) 3 (by omega)
          obtain ⟨sn, hsn⟩ : ∃ z : Int, 1 + withinN (n3 : Int) 3 = z := ⟨_, rfl⟩
          obtain ⟨wn, hwn⟩ : ∃ z : Int, withinN (n3 : Int) 3 = z := ⟨_, rfl⟩
          rw [hwn] at hwi hwb hsn
          have hadd : RowKit.wrap64 (1 + wn) = sn := by rw [IntWalk.wrap64_in _ (by omega)]; exact hsn
          have hsb : 1 ≤ sn ∧ sn ≤ 4096 := by omega
          have HWI := Lib.hid hwi
          clear hwi hwb hwn
          go_upto_region 10 with (first | (go_at_call 17; refine (HWI.out _).mono ?_; rintro e w' ⟨rfl, rfl⟩) | fail)
          clear hadd HWI HTM
          have F4 := Lib.hid (((((F3.out.box1 (b := w3.heap.size) rfl [.int .i64 n3] 3).box1 (b := w3.heap.size + 1) (by simp) [.int .i64 sn] 3).box1 (b := w3.heap.size + 1 + 1) (by simp) [.int .i64 0] 3).box1 (b := w3.heap.size + 1 + 1 + 1) (by simp) [.int .i64 1] 3).box1 (b := w3.heap.size + 1 + 1 + 1 + 1) (by simp) [.slice (some ⟨w3.heap.size, 0, none⟩) 1 1, .slice (some ⟨w3.heap.size + 1, 0, none⟩) 1 1, .slice (some ⟨w3.heap.size + 1 + 1, 0, none⟩) 1 1, .slice (some ⟨w3.heap.size + 1 + 1 + 1, 0, none⟩) 1 1] 28)
          simp only [List.nil_append, List.cons_append] at F4
          obtain ⟨W4, hW4⟩ : ∃ x, (((((w3.alloc (.cells #[.int .i64 n3] 3)).alloc (.cells #[.int .i64 sn] 3)).alloc (.cells #[.int .i64 0] 3)).alloc (.cells #[.int .i64 1] 3)).alloc (.cells #[.slice (some ⟨w3.heap.size, 0, none⟩) 1 1, .slice (some ⟨w3.heap.size + 1, 0, none⟩) 1 1, .slice (some ⟨w3.heap.size + 1 + 1, 0, none⟩) 1 1, .slice (some ⟨w3.heap.size + 1 + 1 + 1, 0, none⟩) 1 1] 28)) = x := ⟨_, rfl⟩
          rw [hW4] at F4 ⊢
          clear hW4 F3 c0_0 c0_1 c0_2 c0_3 c0_4 c0_5
          obtain ⟨SH, YS, PS, AS, SX, MS, SM, ⟨s1, s2, s3, s4, s5, s6, s7⟩, ⟨m1, m2, m3, m4⟩, ⟨v1, v2, v3⟩, ⟨l1, l2⟩, fM, fY, fA⟩ := HWS.out sn hsb.1 hsb.2
          have hm1 := fun e0 e1 e2 e3 g0 g1 g2 g3 W h h2 hK hS hP hD => pmax_all (some ⟨ga, oa, none⟩) b c d xs ys e0 e1 e2 e3 g0 g1 g2 g3 (wholeW n3 sn) W h h2 hK hS hP hD s7 HC1.out.1 HC1.out.2 (fun _ => s6)
          have ha1 := fun e0 e1 e2 e3 g0 g1 g2 g3 W h h2 hK hS hP hD => pavg_all (some ⟨ga, oa, none⟩) b c d xs ys e0 e1 e2 e3 g0 g1 g2 g3 (wholeW n3 sn) W h h2 hK hS hP hD s7 HC1.out.1 HC1.out.2 (fun _ => s6)
          have oK : (wholeW (n3 : Int) sn).K = [(n3 : Int)] := rfl
          have oS : (wholeW (n3 : Int) sn).S = [sn] := rfl
          have oP : (wholeW (n3 : Int) sn).P = [0] := rfl
          have oD : (wholeW (n3 : Int) sn).D = [1] := rfl
          rw [s1, zL_0, zL_0, zL_0, s2, s3, s4, oK, oS, oP, oD] at hm1
          rw [s1, zL_0, zL_0, s2, s5, oK, oS, oP, oD] at ha1
          simp only [List.length_cons, List.length_nil, Nat.zero_add] at hm1 ha1
          have hx1 := fun W h h2 => rmax_all (some ⟨ga, oa, none⟩) b c d xs ys 2 W h h2 ⟨by decide, by decide⟩
          rw [m1, m2, m3, m4] at hx1
          have hv1 := fun e g W h h2 h3 => rmean_all (some ⟨ga, oa, none⟩) b e c d g xs ys [2] W h h2 h3
          rw [v1, v2, v3] at hv1
          simp only [List.length_cons, List.length_nil, Nat.zero_add] at hv1
          have hYw : ∀ x ∈ YS, (Lit.int .i64 x).wf = true := fun x hx => by have := isW_iff.1 (fY x hx); exact wf_i64_iff.2 ⟨by omega, by omega⟩
          have hAw : ∀ x ∈ AS, (Lit.int .i64 x).wf = true := fun x hx => by have := isW_iff.1 (fA x hx); exact wf_i64_iff.2 ⟨by omega, by omega⟩
          have w0 : ∀ x ∈ [(n3 : Int)], (Lit.int .i64 x).wf = true := fun x hx => by obtain rfl := List.mem_singleton.1 hx; exact wf_i64_iff.2 ⟨by omega, by omega⟩
          have w1s : ∀ x ∈ [sn], (Lit.int .i64 x).wf = true := fun x hx => by obtain rfl := List.mem_singleton.1 hx; exact wf_i64_iff.2 ⟨by omega, by omega⟩
          have w2z : ∀ x ∈ [(0 : Int)], (Lit.int .i64 x).wf = true := fun x hx => by obtain rfl := List.mem_singleton.1 hx; decide
          have w3o : ∀ x ∈ [(1 : Int)], (Lit.int .i64 x).wf = true := fun x hx => by obtain rfl := List.mem_singleton.1 hx; decide
          have w4t : ∀ x ∈ [(2 : Int)], (Lit.int .i64 x).wf = true := fun x hx => by obtain rfl := List.mem_singleton.1 hx; decide
          have HM1 := Lib.hid hm1
          have HA1 := Lib.hid ha1
          have HX1 := Lib.hid hx1
          have HV1 := Lib.hid hv1
          have HYW := Lib.hid hYw
          have HAW := Lib.hid hAw
          have W0 := Lib.hid w0
          have W1S := Lib.hid w1s
          have W2Z := Lib.hid w2z
          have W3O := Lib.hid w3o
          have W4T := Lib.hid w4t
          have FM := Lib.hid fM
          have L1 := Lib.hid l1
          have L2 := Lib.hid l2
          clear hm1 ha1 hx1 hv1 hYw hAw w0 w1s w2z w3o w4t fM fY fA l1 l2 s1 s2 s3 s4 s5 s6 s7 m1 m2 m3 m4 v1 v2 v3 oK oS oP oD HWS hsb hsn
          have c0_0 := F4.out.c 0 0 rfl rfl
          have c0_1 := F4.out.c 0 1 rfl rfl
          have c0_2 := F4.out.c 0 2 rfl rfl
          have c0_3 := F4.out.c 0 3 rfl rfl
          have c0_4 := F4.out.c 0 4 rfl rfl
          have c0_5 := F4.out.c 0 5 rfl rfl
          have c5_0 := F4.out.c 5 0 rfl rfl
          have c5_1 := F4.out.c 5 1 rfl rfl
          have c5_2 := F4.out.c 5 2 rfl rfl
          have c5_3 := F4.out.c 5 3 rfl rfl
          go_upto_region 11 with (first | (go_at_call 10; refine (HM1.out _ _ _ _ _ _ _ _ _ (F4.out.lw 0 rfl) (F4.out.lw 1 rfl) (ints_of_box (xs := [(n3 : Int)]) (F4.out.box _ (List.mem_of_getElem? (i := 1) rfl)).1 (F4.out.bl 1 rfl).2 (by simp) W0.out) (ints_of_box (xs := [sn]) (F4.out.box _ (List.mem_of_getElem? (i := 2) rfl)).1 (F4.out.bl 2 rfl).2 (by simp) W1S.out) (ints_of_box (xs := [(0 : Int)]) (F4.out.box _ (List.mem_of_getElem? (i := 3) rfl)).1 (F4.out.bl 3 rfl).2 (by simp) W2Z.out) (ints_of_box (xs := [(1 : Int)]) (F4.out.box _ (List.mem_of_getElem? (i := 4) rfl)).1 (F4.out.bl 4 rfl).2 (by simp) W3O.out)).mono ?_; rintro e w5 ⟨a5, c5, b5, d5, p5, q5, rfl, hf⟩; have F5 := Lib.hid (F4.out.join hf); simp only [List.nil_append, List.cons_append] at F5; clear hf F4 c0_0 c0_1 c0_2 c0_3 c0_4 c0_5 c5_0 c5_1 c5_2 c5_3) | fail)
          obtain ⟨Q6, hQ6⟩ : ∃ x, w5.heap.size = x := ⟨_, rfl⟩
          rw [hQ6]
          have F6 := Lib.hid (F5.out.box1 (b := Q6) hQ6 [.slice a5 SH.length c5, .slice b5 YS.length d5] 26)
          simp only [List.nil_append, List.cons_append] at F6
          obtain ⟨W6, hW6⟩ : ∃ x, (w5.alloc (.cells #[.slice a5 SH.length c5, .slice b5 YS.length d5] 26)) = x := ⟨_, rfl⟩
          rw [hW6] at F6 ⊢
          clear hW6 hQ6 F5
          have c0_0 := F6.out.c 0 0 rfl rfl
          have c0_1 := F6.out.c 0 1 rfl rfl
          have c0_2 := F6.out.c 0 2 rfl rfl
          have c0_3 := F6.out.c 0 3 rfl rfl
          have c0_4 := F6.out.c 0 4 rfl rfl
          have c0_5 := F6.out.c 0 5 rfl rfl
          have c5_0 := F6.out.c 5 0 rfl rfl
          have c5_1 := F6.out.c 5 1 rfl rfl
          have c5_2 := F6.out.c 5 2 rfl rfl
          have c5_3 := F6.out.c 5 3 rfl rfl
          go_upto_region 12 with (first | (go_at_call 11; refine (HA1.out _ _ _ _ _ _ _ _ _ (F6.out.lw 0 rfl) (F6.out.lw 1 rfl) (ints_of_box (xs := [(n3 : Int)]) (F6.out.box _ (List.mem_of_getElem? (i := 1) rfl)).1 (F6.out.bl 1 rfl).2 (by simp) W0.out) (ints_of_box (xs := [sn]) (F6.out.box _ (List.mem_of_getElem? (i := 2) rfl)).1 (F6.out.bl 2 rfl).2 (by simp) W1S.out) (ints_of_box (xs := [(0 : Int)]) (F6.out.box _ (List.mem_of_getElem? (i := 3) rfl)).1 (F6.out.bl 3 rfl).2 (by simp) W2Z.out) (ints_of_box (xs := [(1 : Int)]) (F6.out.box _ (List.mem_of_getElem? (i := 4) rfl)).1 (F6.out.bl 4 rfl).2 (by simp) W3O.out)).mono ?_; rintro e w7 ⟨a7, c7, b7, d7, rfl, hf⟩; have F7 := Lib.hid (F6.out.join hf); simp only [List.nil_append, List.cons_append] at F7; clear hf F6 c0_0 c0_1 c0_2 c0_3 c0_4 c0_5 c5_0 c5_1 c5_2 c5_3) | fail)
          obtain ⟨Q8, hQ8⟩ : ∃ x, w7.heap.size = x := ⟨_, rfl⟩
          rw [hQ8]
          have F8 := Lib.hid (F7.out.box1 (b := Q8) hQ8 [.slice a7 SH.length c7, .slice b7 AS.length d7] 26)
          simp only [List.nil_append, List.cons_append] at F8
          obtain ⟨W8, hW8⟩ : ∃ x, (w7.alloc (.cells #[.slice a7 SH.length c7, .slice b7 AS.length d7] 26)) = x := ⟨_, rfl⟩
          rw [hW8] at F8 ⊢
          clear hW8 hQ8 F7
          have c0_0 := F8.out.c 0 0 rfl rfl
          have c0_1 := F8.out.c 0 1 rfl rfl
          have c0_2 := F8.out.c 0 2 rfl rfl
          have c0_3 := F8.out.c 0 3 rfl rfl
          have c0_4 := F8.out.c 0 4 rfl rfl
          have c0_5 := F8.out.c 0 5 rfl rfl
          go_upto_region 13 with (first | (go_at_call 18; refine (HX1.out _ (F8.out.lw 0 rfl) (F8.out.lw 1 rfl)).mono ?_; rintro e w9 ⟨a9, c9, b9, d9, p9, q9, rfl, hf⟩; have F9 := Lib.hid (F8.out.join hf); simp only [List.nil_append, List.cons_append] at F9; clear hf F8 c0_0 c0_1 c0_2 c0_3 c0_4 c0_5) | fail)
          obtain ⟨Q10, hQ10⟩ : ∃ x, w9.heap.size = x := ⟨_, rfl⟩
          rw [hQ10]
          have F10 := Lib.hid (F9.out.box1 (b := Q10) hQ10 [.slice a9 SX.length c9, .slice b9 YS.length d9] 26)
          simp only [List.nil_append, List.cons_append] at F10
          obtain ⟨W10, hW10⟩ : ∃ x, (w9.alloc (.cells #[.slice a9 SX.length c9, .slice b9 YS.length d9] 26)) = x := ⟨_, rfl⟩
          rw [hW10] at F10 ⊢
          clear hW10 hQ10 F9
          have F11 := Lib.hid (F10.out.box1 (b := W10.heap.size) rfl [.int .i64 2] 3)
          simp only [List.nil_append, List.cons_append] at F11
          have c0_0 := F10.out.c 0 0 rfl rfl
          have c0_1 := F10.out.c 0 1 rfl rfl
          have c0_2 := F10.out.c 0 2 rfl rfl
          have c0_3 := F10.out.c 0 3 rfl rfl
          have c0_4 := F10.out.c 0 4 rfl rfl
          have c0_5 := F10.out.c 0 5 rfl rfl
          go_upto_region 14 with (first | (go_at_call 19; refine (HV1.out _ _ _ (F11.out.lw 0 rfl) (F11.out.lw 1 rfl) (ints_of_box (xs := [(2 : Int)]) (F11.out.box _ (List.mem_of_getElem? (i := 9) rfl)).1 (F11.out.bl 9 rfl).2 (by simp) W4T.out)).mono ?_; rintro e w12 ⟨a12, c12, b12, d12, rfl, hf⟩; have F12 := Lib.hid (F11.out.join hf); simp only [List.nil_append, List.cons_append] at F12; clear hf F10 F11 c0_0 c0_1 c0_2 c0_3 c0_4 c0_5) | fail)
          obtain ⟨Q13, hQ13⟩ : ∃ x, w12.heap.size = x := ⟨_, rfl⟩
          rw [hQ13]
          have F13 := Lib.hid (F12.out.box1 (b := Q13) hQ13 [.slice a12 SM.length c12, .slice b12 AS.length d12] 26)
          simp only [List.nil_append, List.cons_append] at F13
          obtain ⟨W13, hW13⟩ : ∃ x, (w12.alloc (.cells #[.slice a12 SM.length c12, .slice b12 AS.length d12] 26)) = x := ⟨_, rfl⟩
          rw [hW13] at F13 ⊢
          clear hW13 hQ13 F12
          have hl3 : ((PS.length : Int) != (MS.length : Int)) = false := by rw [L1.out]; simp
          have hee := fun a1 a2 c1 c2 L W (h : Ints .i64 W W.heap.size a1 L) (h2 : Ints .i64 W W.heap.size a2 L) => eqWords_any a1 a2 c1 c2 W.heap.size L L W h h2
          simp only [decide_true] at hee
          have HEE := Lib.hid hee
          clear hee
          have M1 : True := trivial
          have c6_0 := F13.out.c 6 0 rfl rfl
          have c6_1 := F13.out.c 6 1 rfl rfl
          have c7_0 := F13.out.c 7 0 rfl rfl
          have c7_1 := F13.out.c 7 1 rfl rfl
          have c8_0 := F13.out.c 8 0 rfl rfl
          have c8_1 := F13.out.c 8 1 rfl rfl
          have c10_0 := F13.out.c 10 0 rfl rfl
          have c10_1 := F13.out.c 10 1 rfl rfl
          go_upto_region 16 with (first | (go_at_call 12; refine (num12_any _ _).mono ?_; rintro e w' ⟨rfl, rfl⟩) | (go_at_call 20; have hmk := M1; clear hmk M1; refine (HEE.out _ _ _ _ _ _ (F13.out.li 1 (k := .i64) (xs := YS) rfl HYW.out) (F13.out.li 6 (k := .i64) (xs := YS) rfl HYW.out)).mono ?_; rintro e w14 ⟨rfl, q14, rfl⟩; have F14 := Lib.hid (F13.out.drewN q14); clear F13 c6_0 c6_1 c7_0 c7_1 c8_0 c8_1 c10_0 c10_1; have c6_0 := F14.out.c 6 0 rfl rfl; have c6_1 := F14.out.c 6 1 rfl rfl; have c7_0 := F14.out.c 7 0 rfl rfl; have c7_1 := F14.out.c 7 1 rfl rfl; have c8_0 := F14.out.c 8 0 rfl rfl; have c8_1 := F14.out.c 8 1 rfl rfl; have c10_0 := F14.out.c 10 0 rfl rfl; have c10_1 := F14.out.c 10 1 rfl rfl) | (go_at_call 20; refine (HEE.out _ _ _ _ _ _ (F14.out.li 4 (k := .i64) (xs := AS) rfl HAW.out) (F14.out.li 9 (k := .i64) (xs := AS) rfl HAW.out)).mono ?_; rintro e w15 ⟨rfl, q15, rfl⟩; have F15 := Lib.hid (F14.out.drewN q15); clear F14 c6_0 c6_1 c7_0 c7_1 c8_0 c8_1 c10_0 c10_1) | fail)
          clear hl3
          rw [World.drewN_drewN] at F15
          obtain ⟨W15, hW15⟩ : ∃ x, W13.drewN (q14 + q15) = x := ⟨_, rfl⟩
          rw [hW15] at F15 ⊢
          clear hW15
          go_wp2
          go_loopw [17] (fun s17 wr => ∃ j : Nat, j ≤ PS.length ∧ s17 = .int .i64 j ∧ Hid (Fr wo.heap.size wo wr [(wo.heap.size, [.slice (some ⟨ga, oa, none⟩) xs.length c, .slice b ys.length d, .slice aK wv.K.length cK, .slice aS wv.S.length cS, .slice aP wv.P.length cP, .slice aD wv.D.length cD]), (w3.heap.size, [.int .i64 n3]), (w3.heap.size + 1, [.int .i64 sn]), (w3.heap.size + 1 + 1, [.int .i64 0]), (w3.heap.size + 1 + 1 + 1, [.int .i64 1]), (w3.heap.size + 1 + 1 + 1 + 1, [.slice (some ⟨w3.heap.size, 0, none⟩) 1 1, .slice (some ⟨w3.heap.size + 1, 0, none⟩) 1 1, .slice (some ⟨w3.heap.size + 1 + 1, 0, none⟩) 1 1, .slice (some ⟨w3.heap.size + 1 + 1 + 1, 0, none⟩) 1 1]), (Q6, [.slice a5 SH.length c5, .slice b5 YS.length d5]), (Q8, [.slice a7 SH.length c7, .slice b7 AS.length d7]), (Q10, [.slice a9 SX.length c9, .slice b9 YS.length d9]), (W10.heap.size, [.int .i64 2]), (Q13, [.slice a12 SM.length c12, .slice b12 AS.length d12])] [(.i64, (some ⟨ga, oa, none⟩), xs), (.i64, b, ys), (.i64, aK, wv.K), (.i64, aS, wv.S), (.i64, aP, wv.P), (.i64, aD, wv.D)] [⟨3, .slice a5 SH.length c5, SH.length, SH.map (Value.int .i64)⟩, ⟨2, .slice b5 YS.length d5, YS.length, YS.map (Value.int .i64)⟩, ⟨3, .slice p5 PS.length q5, PS.length, PS.map (Value.int .i64)⟩, ⟨3, .slice a7 SH.length c7, SH.length, SH.map (Value.int .i64)⟩, ⟨2, .slice b7 AS.length d7, AS.length, AS.map (Value.int .i64)⟩, ⟨3, .slice a9 SX.length c9, SX.length, SX.map (Value.int .i64)⟩, ⟨2, .slice b9 YS.length d9, YS.length, YS.map (Value.int .i64)⟩, ⟨3, .slice p9 MS.length q9, MS.length, MS.map (Value.int .i64)⟩, ⟨3, .slice a12 SM.length c12, SM.length, SM.map (Value.int .i64)⟩, ⟨2, .slice b12 AS.length d12, AS.length, AS.map (Value.int .i64)⟩] [])) (fun s17 _ => PS.length - (intOf s17).toNat)
          case atStart => exact ⟨0, Nat.zero_le _, rfl, F15⟩
          case round =>
            obtain ⟨j, hj, rfl, F16⟩ := hrel
            clear F15
            obtain ⟨wi, rfl⟩ : ∃ x : World, x = wr := ⟨_, rfl⟩
            have hl2 := L2.out
            by_cases hlj : j < PS.length
            · as_aux_lemma =>
              have hji : (j : Int) < (PS.length : Int) := by omega
              have hjm : (j : Int) < (MS.length : Int) := by have := L1.out; omega
              obtain ⟨m9, gm, gp, hmb⟩ := FM.out j hlj
              have gp2 : (PS.map (Value.int .i64))[j]? = some (.int .i64 ((j * n3 + m9 : Nat) : Int)) := by rw [List.getElem?_map, gp]; rfl
              have gm2 : (MS.map (Value.int .i64))[j]? = some (.int .i64 (m9 : Int)) := by rw [List.getElem?_map, gm]; rfl
              obtain ⟨ba', da', he, hsh⟩ := own_shape (F16.out.r 2 rfl)
              simp only [Value.slice.injEq] at he
              obtain ⟨rfl, _, rfl⟩ := he
              obtain ⟨gpp, rfl, _⟩ := hsh.resolve_left (show ¬ PS.length = 0 by omega)
              obtain ⟨bb', db', he, hsh⟩ := own_shape (F16.out.r 7 rfl)
              simp only [Value.slice.injEq] at he
              obtain ⟨rfl, _, rfl⟩ := he
              obtain ⟨gmm, rfl, _⟩ := hsh.resolve_left (show ¬ MS.length = 0 by have := L1.out; omega)
              have rp := (F16.out.rc 2 j rfl gp2).1
              have rm := (F16.out.rc 7 j rfl gm2).1
              obtain ⟨jn, hjn⟩ : ∃ z : Nat, j * n3 = z := ⟨_, rfl⟩
              have hjz : (j : Int) * (n3 : Int) = (jn : Int) := by rw [← Int.natCast_mul, hjn]
              rw [hjn] at rp hmb
              obtain ⟨sm, hsm⟩ : ∃ z : Nat, jn + m9 = z := ⟨_, rfl⟩
              rw [hsm] at rp hmb
              have hz1 : ∀ [Inhabited Unit], RowKit.wrap64 ((j : Int) * (n3 : Int)) = (jn : Int) := by intro _; rw [hjz]; exact IntWalk.wrap64_in _ (by omega)
              have hz2 : ∀ [Inhabited Unit], RowKit.wrap64 ((jn : Int) + (m9 : Int)) = (sm : Int) := by intro _; rw [show (jn : Int) + (m9 : Int) = (sm : Int) by omega]; exact IntWalk.wrap64_in _ (by omega)
              have hz4 : ((sm : Int) != (sm : Int)) = false := by simp
              have HJ2 := Lib.hid hlj
              clear gm gp gp2 gm2 hjn hjz hsm hmb hn1 hn2
              go_upto_region 19 with fail
              go_quiet (fail)
              go_wp2
              go_roundw
              case rel => exact ⟨j + 1, HJ2.out, by go_num, Lib.hid (F16.out.drewN _)⟩
              case measure => have hj9 := HJ2.out; simp [intOf]; omega
            · as_aux_lemma =>
              obtain rfl : j = PS.length := by omega
              go_wp2
              go_roundw
              case rel => exact ⟨k + 1, by omega, by go_num, HB.out.trans (F16.out.bel.mono HB.out.size)⟩
              case measure => simp [intOf]; omega
    · have HB := Lib.hid hbel
      clear hbel h
      have WK := fun W => Lib.hid (wakes12_any W)
      by_cases hlt : k < n
      · have hk15 : ¬ (k : Int) < 5 := by omega
        have hkn : (k : Int) < n := by omega
        go_wp2_with (go_at_call 14; refine ((WK _).out).mono ?_; rintro e w1 ⟨rfl, hb⟩; have HW1 := Lib.hid hb; clear hb)
        go_ret
        exact ⟨rfl, HB.out.trans (HW1.out.mono HB.out.size)⟩
      · obtain rfl : k = n := by omega
        go_wp2_with (go_at_call 14; refine ((WK _).out).mono ?_; rintro e w1 ⟨rfl, hb⟩; have HW1 := Lib.hid hb; clear hb)
        go_ret
        exact ⟨rfl, HB.out.trans (HW1.out.mono HB.out.size)⟩
end Go.Proofs.Ytmjcpgfekpedkaa
