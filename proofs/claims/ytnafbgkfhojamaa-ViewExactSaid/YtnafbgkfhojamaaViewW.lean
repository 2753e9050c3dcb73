/- Walks: widened views. -/
import Derived.Test.YtnafbgkfhojamaaViewG
import Derived.Test.YtnafbgkfhojamaaWidP
set_option linter.unusedVariables false
set_option linter.unusedSimpArgs false
namespace Go.Proofs.Ytnafbgkfhojamaa
open Go.RowKit Go.Rt
theorem infoIntW : (Try.prog.info? 3).map (fun i => (i.zero, i.size, i.bytes)) = some (some (.int .i64 0), 1, 8) := by kernel_rfl
theorem make_intsW (n : Nat) (hn : n ≤ 17592186044416) (w : World) : (Instr.makeSlice 23 (.int .i64 (n : Int)) (.int .i64 (n : Int))).run Try.prog w = .ok (.slice (some ⟨w.heap.size, 0, none⟩) n n) (w.alloc (.cells (madeCells #[Value.int .i64 0] n) 3)) := by
  obtain ⟨i, hi, hz0, hz1, hz2⟩ := info_parts infoIntW
  have hr := run_make (P := Try.prog) w 23 3 i (.int .i64 0) Try.underlying23 hi hz0 .i64 .i64 n n (by omega) (Int.le_refl _) (by rw [hz2]; omega) (by omega)
  simp only [Int.toNat_natCast, hz1, Nat.mul_one, Value.cells] at hr
  exact hr
theorem madeRowW (w : World) (base n : Nat) (hb : base ≤ w.heap.size) (hn : n ≤ 17592186044416) : (w.alloc (.cells (madeCells #[Value.int .i64 0] n) 3)).ownsRow base 3 1 (.slice (some ⟨w.heap.size, 0, none⟩) n n) n ((List.replicate n (0 : Int)).map (Value.int .i64)) := by
  have row := World.ownsRow_lit (base := base) (e := 3) (size := 1) w (madeCells #[Value.int .i64 0] n) n hb (by unfold maxLen; omega) (by rw [size_madeCells, Nat.mul_one])
  rw [made_zeros] at row
  exact row

set_option maxRecDepth 100000 in
set_option maxHeartbeats 4000000 in
theorem rwiden_any (a b p : Option Addr) (c d cp : Nat) (sh st s : List Int) (off : Int) (w : World) (h : Ints .i64 w w.heap.size a sh) (h2 : Ints .i64 w w.heap.size b st) (h3 : Ints .i64 w w.heap.size p s) (hv : viewB sh st off 65536 = true) (hg : goodB s = true) (hgo : goesB sh s = true) :
    Calls Try.prog 40 #[.agg #[.slice a sh.length c, .slice b st.length d, .int .i64 off], .slice p s.length cp] w (RetVO w s (widL sh st s) off) := by
  have HA := Lib.hid h
  have HB := Lib.hid h2
  have HP := Lib.hid h3
  have hv0 := viewB_iff.1 hv
  have h4 := (goodB_iff.1 hv0.1).1
  have h5 := (goodB_iff.1 hg).1
  have HLT := Lib.hid hv0.2.1
  have hls := (goes_facts (goodB_dims hv0.1) hgo).1
  have hgv := fun W (h : Ints .i64 W W.heap.size a sh) (h2 : Ints .i64 W W.heap.size b st) => vgood_any a b c d W.heap.size sh st off 65536 W h h2 (Nat.le_refl _)
  have hgd := fun W (h : Ints .i64 W W.heap.size p s) => good_any p cp _ s W h
  rw [hv] at hgv
  rw [hg] at hgd
  have HSE : spreadE sh s = 0 ∧ spreadR sh s = s := by unfold goesB at hgo; rw [Bool.and_eq_true, decide_eq_true_eq, decide_eq_true_eq] at hgo; exact hgo
  have HBO := Lib.hid (fun W (h : Ints .i64 W W.heap.size a sh) (h2 : Ints .i64 W W.heap.size p s) => both_any a p c cp sh s W h h2 hv0.1 hg)
  unfold RetSpread at HBO
  rw [HSE.1, HSE.2] at HBO
  have HPW := Lib.hid h3.wf
  have hmk := make_intsW s.length (by omega)
  clear h h2 h3 hv hg hgo hv0 HSE
  go_enter Try.func40, Try.ntmps40
  have F1 := Lib.hid (((Fr.start (w := w) (I := [(.i64, a, sh), (.i64, b, st), (.i64, p, s)]) (by intro z hz; simp at hz; rcases hz with rfl | rfl | rfl; exact HA.out; exact HB.out; exact HP.out)).box1 (b := w.heap.size) rfl [.slice a sh.length c, .slice b st.length d, .int .i64 off] 25).box1 (b := w.heap.size + 1) (by simp) [.slice none 0 0, .slice none 0 0, .int .i64 0] 25)
  simp only [List.nil_append, List.cons_append] at F1
  go_upto_region 1 with fail
  obtain ⟨W1, hW1⟩ : ∃ W1, ((w.alloc (.cells #[.slice a sh.length c, .slice b st.length d, .int .i64 off] 25)).alloc (.cells #[.slice none 0 0, .slice none 0 0, .int .i64 0] 25)) = W1 := ⟨_, rfl⟩
  rw [hW1] at F1 ⊢
  clear hW1
  have F2 := F1
  clear F1
  obtain ⟨wk, rfl⟩ : ∃ z : World, z = W1 := ⟨_, rfl⟩
  clear hgv hgd HBO
  have hwz : (List.replicate s.length (0 : Int)) = widK sh st s 0 := (widK_zero sh st s).symm
  go_cut [5] from 8 to 15 (fun sb wx => ∃ Q a1 c1 G, sb = .pointer (some ⟨Q, 0, none⟩) ∧ Hid (Fr w.heap.size w wx [(w.heap.size, [.slice a sh.length c, .slice b st.length d, .int .i64 off]), (w.heap.size + 1, [.slice none 0 0, .slice none 0 0, .int .i64 0]), (Q, [.slice a1 s.length c1, .slice (some ⟨G, 0, none⟩) s.length s.length, .int .i64 off])] [(.i64, a, sh), (.i64, b, st), (.i64, p, s)] [⟨3, .slice a1 s.length c1, s.length, s.map (Value.int .i64)⟩, ⟨3, .slice (some ⟨G, 0, none⟩) s.length s.length, s.length, (widK sh st s 0).map (Value.int .i64)⟩] []))
  case first =>
    have FD := F2.out.drew
    refine wp_region_J (S := fun W => W.cell? ⟨w.heap.size, 0, none⟩ = some (.slice a sh.length c) ∧ W.cell? ⟨w.heap.size, 1, none⟩ = some (.slice b st.length d) ∧ W.cell? ⟨w.heap.size, 2, none⟩ = some (.int .i64 off)) (S1 := fun _ => True) (L := []) (by kernel_rfl) ⟨FD.c 0 0 rfl rfl, FD.c 0 1 rfl rfl, FD.c 0 2 rfl rfl⟩ trivial (fun hHeld hHeld1 => ?_)
    obtain ⟨w0, hw0⟩ : ∃ zz, wk.drew = zz := ⟨_, rfl⟩
    rw [hw0] at FD hHeld ⊢
    clear hw0 F2
    refine takeJ (i := 0) (dst := (some 8)) (v := ?_) rfl rfl (by kernel_rfl) (by kernel_rfl) (by kernel_rfl) (by kernel_rfl) (fun _ _ _ h => h) (by rfl) ?hy0n1 hHeld trivial ?rest0n1
    case hy0n1 => (intro W hSw; (try dsimp only at hSw); obtain ⟨s0, s1, s2⟩ := hSw; go_simp; (try with_reducible rfl))
    try simp only [Act.put, List.setIfInBounds_toArray, List.set_cons_zero, List.set_cons_succ]
    refine takeJ (i := 2) (dst := (some 10)) (v := ?_) rfl rfl (by kernel_rfl) (by kernel_rfl) (by kernel_rfl) (by kernel_rfl) (fun _ _ _ h => h) (by rfl) ?hy2n2 hHeld trivial ?rest2n2
    case hy2n2 => (intro W hSw; (try dsimp only at hSw); obtain ⟨s0, s1, s2⟩ := hSw; go_simp; (try with_reducible rfl))
    try simp only [Act.put, List.setIfInBounds_toArray, List.set_cons_zero, List.set_cons_succ]
    refine takeJ (i := 3) (dst := (some 11)) (v := ?_) rfl rfl (by kernel_rfl) (by kernel_rfl) (by kernel_rfl) (by kernel_rfl) (fun _ _ _ h => h) (by rfl) ?hy3n3 hHeld trivial ?rest3n3
    case hy3n3 => (intro W hSw; (try dsimp only at hSw); obtain ⟨s0, s1, s2⟩ := hSw; go_simp; (try with_reducible rfl))
    try simp only [Act.put, List.setIfInBounds_toArray, List.set_cons_zero, List.set_cons_succ]
    refine takeJ (i := 5) (dst := (some 13)) (v := ?_) rfl rfl (by kernel_rfl) (by kernel_rfl) (by kernel_rfl) (by kernel_rfl) (fun _ _ _ h => h) (by rfl) ?hy5n4 hHeld trivial ?rest5n4
    case hy5n4 => (intro W hSw; (try dsimp only at hSw); obtain ⟨s0, s1, s2⟩ := hSw; go_simp; (try with_reducible rfl))
    try simp only [Act.put, List.setIfInBounds_toArray, List.set_cons_zero, List.set_cons_succ]
    refine takeJ (i := 6) (dst := (some 14)) (v := ?_) rfl rfl (by kernel_rfl) (by kernel_rfl) (by kernel_rfl) (by kernel_rfl) (fun _ _ _ h => h) (by rfl) ?hy6n5 hHeld trivial ?rest6n5
    case hy6n5 => (intro W hSw; (try dsimp only at hSw); obtain ⟨s0, s1, s2⟩ := hSw; go_simp; (try with_reducible rfl))
    try simp only [Act.put, List.setIfInBounds_toArray, List.set_cons_zero, List.set_cons_succ]
    refine readyJ (rs := [1, 4, 8]) (by kernel_rfl) (by simp) ?_
    refine (AllJ.cons rfl ?op1xz (AllJ.cons rfl ?op4xz (AllJ.cons rfl ?op8xz AllJ.nil)))
    case op1xz =>
      intro K hK
      go_simp
      go_at_call 46
      refine (copyNumbers_any p cp s w0 (FD.lw 2 rfl) (by omega)).mono ?_
      rintro e w1 ⟨v, rfl, hown, hb⟩
      obtain ⟨a1, c1, rfl, _⟩ := own_shape hown
      have G1 := FD.addO hb hown
      simp only [List.cons_append, List.nil_append] at G1
      clear hown hb
      (try go_wp2_with fail)
      refine hK.out _ _ (fun _ => ⟨G1.c 0 0 rfl rfl, G1.c 0 1 rfl rfl, G1.c 0 2 rfl rfl⟩) trivial (fun hHeld hHeld1 => ?_)
      replace hHeld := hHeld rfl
      clear hK K
      try simp only [Act.put, List.setIfInBounds_toArray, List.set_cons_zero, List.set_cons_succ]
      refine readyJ (rs := [4, 8]) (by kernel_rfl) (by simp) ?_
      refine (AllJ.cons rfl ?op4x1z (AllJ.cons rfl ?op8x1z AllJ.nil))
      case op4x1z =>
        intro K hK
        go_simp
        have G2 := G1.addO ((Below.refl _ _).alloc (Nat.le_refl _) _) (madeRowW w1 w1.heap.size s.length (Nat.le_refl _) (by omega))
        simp only [List.cons_append, List.nil_append] at G2
        obtain ⟨G, hG⟩ : ∃ zz, w1.heap.size = zz := ⟨_, rfl⟩
        rw [hG] at G2 ⊢
        obtain ⟨w2, hw2⟩ : ∃ zz, (w1.alloc (.cells (madeCells #[Value.int .i64 0] s.length) 3)) = zz := ⟨_, rfl⟩
        rw [hw2] at G2 ⊢
        clear hw2 hG
        refine hK.out _ _ (fun _ => ⟨G2.c 0 0 rfl rfl, G2.c 0 1 rfl rfl, G2.c 0 2 rfl rfl⟩) trivial (fun hHeld hHeld1 => ?_)
        replace hHeld := hHeld rfl
        clear hK K
        try simp only [Act.put, List.setIfInBounds_toArray, List.set_cons_zero, List.set_cons_succ]
        refine takeJ (i := 7) (dst := (some 15)) (v := ?_) rfl rfl (by kernel_rfl) (by kernel_rfl) (by kernel_rfl) (by kernel_rfl) (fun _ _ _ h => h) (by rfl) ?hy7n6 hHeld trivial ?rest7n6
        case hy7n6 => (intro W hSw; (try dsimp only at hSw); obtain ⟨s0, s1, s2⟩ := hSw; go_simp; (try with_reducible rfl))
        try simp only [Act.put, List.setIfInBounds_toArray, List.set_cons_zero, List.set_cons_succ]
        refine readyJ (rs := [8]) (by kernel_rfl) (by simp) ?_
        refine (AllJ.cons rfl ?op8x1y4y7z AllJ.nil)
        case op8x1y4y7z =>
          intro K hK
          go_simp
          obtain ⟨Q, hQ⟩ : ∃ zz, w2.heap.size = zz := ⟨_, rfl⟩
          rw [hQ]
          have G4 := G2.box1 hQ [.slice none 0 0, .slice none 0 0, .int .i64 0] 25
          simp only [List.cons_append, List.nil_append] at G4
          obtain ⟨w4, hw4⟩ : ∃ zz, (w2.alloc (.cells #[.slice none 0 0, .slice none 0 0, .int .i64 0] 25)) = zz := ⟨_, rfl⟩
          rw [hw4] at G4 ⊢
          clear hw4 hQ
          refine hK.out _ _ (fun _ => ⟨G4.c 0 0 rfl rfl, G4.c 0 1 rfl rfl, G4.c 0 2 rfl rfl⟩) trivial (fun hHeld hHeld1 => ?_)
          replace hHeld := hHeld rfl
          clear hK K
          try simp only [Act.put, List.setIfInBounds_toArray, List.set_cons_zero, List.set_cons_succ]
          refine readyJ (rs := [9]) (by kernel_rfl) (by simp) ?_
          refine (AllJ.cons rfl ?op9x1y4y7y8z AllJ.nil)
          case op9x1y4y7y8z =>
            intro K hK
            have e0 := G4.c 2 0 rfl rfl
            have e1 := G4.c 2 1 rfl rfl
            have e2 := G4.c 2 2 rfl rfl
            have ef0 := G4.f 2 0 rfl rfl
            have ef1 := G4.f 2 1 rfl rfl
            have ef2 := G4.f 2 2 rfl rfl
            go_simp
            have G5 := G4.set 2 rfl (by simp) [.slice a1 s.length c1, .slice (some ⟨G, 0, none⟩) s.length s.length, .int .i64 off] rfl
            simp only [setL, Nat.reduceAdd, List.set_cons_zero, List.set_cons_succ] at G5
            clear e0 ef0 e1 ef1 e2 ef2
            refine hK.out _ _ (fun _ => ⟨G5.c 0 0 rfl rfl, G5.c 0 1 rfl rfl, G5.c 0 2 rfl rfl⟩) trivial (fun hHeld hHeld1 => ?_)
            replace hHeld := hHeld rfl
            clear hK K
            try simp only [Act.put, List.setIfInBounds_toArray, List.set_cons_zero, List.set_cons_succ]
            refine doneJ (by kernel_rfl) ?_
            rw [hwz] at G5
            clear hHeld hHeld1
            go_wp2
            go_meet
            exact ⟨Q, a1, c1, G, rfl, Lib.hid G5⟩
      case op8x1z =>
        intro K hK
        go_simp
        obtain ⟨Q, hQ⟩ : ∃ zz, w1.heap.size = zz := ⟨_, rfl⟩
        rw [hQ]
        have G2 := G1.box1 hQ [.slice none 0 0, .slice none 0 0, .int .i64 0] 25
        simp only [List.cons_append, List.nil_append] at G2
        obtain ⟨w2, hw2⟩ : ∃ zz, (w1.alloc (.cells #[.slice none 0 0, .slice none 0 0, .int .i64 0] 25)) = zz := ⟨_, rfl⟩
        rw [hw2] at G2 ⊢
        clear hw2 hQ
        refine hK.out _ _ (fun _ => ⟨G2.c 0 0 rfl rfl, G2.c 0 1 rfl rfl, G2.c 0 2 rfl rfl⟩) trivial (fun hHeld hHeld1 => ?_)
        replace hHeld := hHeld rfl
        clear hK K
        try simp only [Act.put, List.setIfInBounds_toArray, List.set_cons_zero, List.set_cons_succ]
        refine readyJ (rs := [4]) (by kernel_rfl) (by simp) ?_
        refine (AllJ.cons rfl ?op4x1y8z AllJ.nil)
        case op4x1y8z =>
          intro K hK
          go_simp
          have G3 := G2.addO ((Below.refl _ _).alloc (Nat.le_refl _) _) (madeRowW w2 w2.heap.size s.length (Nat.le_refl _) (by omega))
          simp only [List.cons_append, List.nil_append] at G3
          obtain ⟨G, hG⟩ : ∃ zz, w2.heap.size = zz := ⟨_, rfl⟩
          rw [hG] at G3 ⊢
          obtain ⟨w3, hw3⟩ : ∃ zz, (w2.alloc (.cells (madeCells #[Value.int .i64 0] s.length) 3)) = zz := ⟨_, rfl⟩
          rw [hw3] at G3 ⊢
          clear hw3 hG
          refine hK.out _ _ (fun _ => ⟨G3.c 0 0 rfl rfl, G3.c 0 1 rfl rfl, G3.c 0 2 rfl rfl⟩) trivial (fun hHeld hHeld1 => ?_)
          replace hHeld := hHeld rfl
          clear hK K
          try simp only [Act.put, List.setIfInBounds_toArray, List.set_cons_zero, List.set_cons_succ]
          refine takeJ (i := 7) (dst := (some 15)) (v := ?_) rfl rfl (by kernel_rfl) (by kernel_rfl) (by kernel_rfl) (by kernel_rfl) (fun _ _ _ h => h) (by rfl) ?hy7n7 hHeld trivial ?rest7n7
          case hy7n7 => (intro W hSw; (try dsimp only at hSw); obtain ⟨s0, s1, s2⟩ := hSw; go_simp; (try with_reducible rfl))
          try simp only [Act.put, List.setIfInBounds_toArray, List.set_cons_zero, List.set_cons_succ]
          refine readyJ (rs := [9]) (by kernel_rfl) (by simp) ?_
          refine (AllJ.cons rfl ?op9x1y8y4y7z AllJ.nil)
          case op9x1y8y4y7z =>
            intro K hK
            have e0 := G3.c 2 0 rfl rfl
            have e1 := G3.c 2 1 rfl rfl
            have e2 := G3.c 2 2 rfl rfl
            have ef0 := G3.f 2 0 rfl rfl
            have ef1 := G3.f 2 1 rfl rfl
            have ef2 := G3.f 2 2 rfl rfl
            go_simp
            have G5 := G3.set 2 rfl (by simp) [.slice a1 s.length c1, .slice (some ⟨G, 0, none⟩) s.length s.length, .int .i64 off] rfl
            simp only [setL, Nat.reduceAdd, List.set_cons_zero, List.set_cons_succ] at G5
            clear e0 ef0 e1 ef1 e2 ef2
            refine hK.out _ _ (fun _ => ⟨G5.c 0 0 rfl rfl, G5.c 0 1 rfl rfl, G5.c 0 2 rfl rfl⟩) trivial (fun hHeld hHeld1 => ?_)
            replace hHeld := hHeld rfl
            clear hK K
            try simp only [Act.put, List.setIfInBounds_toArray, List.set_cons_zero, List.set_cons_succ]
            refine doneJ (by kernel_rfl) ?_
            rw [hwz] at G5
            clear hHeld hHeld1
            go_wp2
            go_meet
            exact ⟨Q, a1, c1, G, rfl, Lib.hid G5⟩
    case op4xz =>
      intro K hK
      go_simp
      have G1 := FD.addO ((Below.refl _ _).alloc (Nat.le_refl _) _) (madeRowW w0 w0.heap.size s.length (Nat.le_refl _) (by omega))
      simp only [List.cons_append, List.nil_append] at G1
      obtain ⟨G, hG⟩ : ∃ zz, w0.heap.size = zz := ⟨_, rfl⟩
      rw [hG] at G1 ⊢
      obtain ⟨w1, hw1⟩ : ∃ zz, (w0.alloc (.cells (madeCells #[Value.int .i64 0] s.length) 3)) = zz := ⟨_, rfl⟩
      rw [hw1] at G1 ⊢
      clear hw1 hG
      refine hK.out _ _ (fun _ => ⟨G1.c 0 0 rfl rfl, G1.c 0 1 rfl rfl, G1.c 0 2 rfl rfl⟩) trivial (fun hHeld hHeld1 => ?_)
      replace hHeld := hHeld rfl
      clear hK K
      try simp only [Act.put, List.setIfInBounds_toArray, List.set_cons_zero, List.set_cons_succ]
      refine readyJ (rs := [1, 8]) (by kernel_rfl) (by simp) ?_
      refine (AllJ.cons rfl ?op1x4z (AllJ.cons rfl ?op8x4z AllJ.nil))
      case op1x4z =>
        intro K hK
        go_simp
        go_at_call 46
        refine (copyNumbers_any p cp s w1 (G1.lw 2 rfl) (by omega)).mono ?_
        rintro e w2 ⟨v, rfl, hown, hb⟩
        obtain ⟨a1, c1, rfl, _⟩ := own_shape hown
        have G2 := G1.addO hb hown
        simp only [List.cons_append, List.nil_append] at G2
        clear hown hb
        (try go_wp2_with fail)
        refine hK.out _ _ (fun _ => ⟨G2.c 0 0 rfl rfl, G2.c 0 1 rfl rfl, G2.c 0 2 rfl rfl⟩) trivial (fun hHeld hHeld1 => ?_)
        replace hHeld := hHeld rfl
        clear hK K
        try simp only [Act.put, List.setIfInBounds_toArray, List.set_cons_zero, List.set_cons_succ]
        refine takeJ (i := 7) (dst := (some 15)) (v := ?_) rfl rfl (by kernel_rfl) (by kernel_rfl) (by kernel_rfl) (by kernel_rfl) (fun _ _ _ h => h) (by rfl) ?hy7n8 hHeld trivial ?rest7n8
        case hy7n8 => (intro W hSw; (try dsimp only at hSw); obtain ⟨s0, s1, s2⟩ := hSw; go_simp; (try with_reducible rfl))
        try simp only [Act.put, List.setIfInBounds_toArray, List.set_cons_zero, List.set_cons_succ]
        refine readyJ (rs := [8]) (by kernel_rfl) (by simp) ?_
        refine (AllJ.cons rfl ?op8x4y1y7z AllJ.nil)
        case op8x4y1y7z =>
          intro K hK
          go_simp
          obtain ⟨Q, hQ⟩ : ∃ zz, w2.heap.size = zz := ⟨_, rfl⟩
          rw [hQ]
          have G4 := G2.box1 hQ [.slice none 0 0, .slice none 0 0, .int .i64 0] 25
          simp only [List.cons_append, List.nil_append] at G4
          obtain ⟨w4, hw4⟩ : ∃ zz, (w2.alloc (.cells #[.slice none 0 0, .slice none 0 0, .int .i64 0] 25)) = zz := ⟨_, rfl⟩
          rw [hw4] at G4 ⊢
          clear hw4 hQ
          refine hK.out _ _ (fun _ => ⟨G4.c 0 0 rfl rfl, G4.c 0 1 rfl rfl, G4.c 0 2 rfl rfl⟩) trivial (fun hHeld hHeld1 => ?_)
          replace hHeld := hHeld rfl
          clear hK K
          try simp only [Act.put, List.setIfInBounds_toArray, List.set_cons_zero, List.set_cons_succ]
          refine readyJ (rs := [9]) (by kernel_rfl) (by simp) ?_
          refine (AllJ.cons rfl ?op9x4y1y7y8z AllJ.nil)
          case op9x4y1y7y8z =>
            intro K hK
            have e0 := G4.c 2 0 rfl rfl
            have e1 := G4.c 2 1 rfl rfl
            have e2 := G4.c 2 2 rfl rfl
            have ef0 := G4.f 2 0 rfl rfl
            have ef1 := G4.f 2 1 rfl rfl
            have ef2 := G4.f 2 2 rfl rfl
            go_simp
            have G5 := G4.set 2 rfl (by simp) [.slice a1 s.length c1, .slice (some ⟨G, 0, none⟩) s.length s.length, .int .i64 off] rfl
            simp only [setL, Nat.reduceAdd, List.set_cons_zero, List.set_cons_succ] at G5
            clear e0 ef0 e1 ef1 e2 ef2
            refine hK.out _ _ (fun _ => ⟨G5.c 0 0 rfl rfl, G5.c 0 1 rfl rfl, G5.c 0 2 rfl rfl⟩) trivial (fun hHeld hHeld1 => ?_)
            replace hHeld := hHeld rfl
            clear hK K
            try simp only [Act.put, List.setIfInBounds_toArray, List.set_cons_zero, List.set_cons_succ]
            refine doneJ (by kernel_rfl) ?_
            rw [hwz] at G5
            clear hHeld hHeld1
            go_wp2
            go_meet
            exact ⟨Q, a1, c1, G, rfl, Lib.hid G5.swapO⟩
      case op8x4z =>
        intro K hK
        go_simp
        obtain ⟨Q, hQ⟩ : ∃ zz, w1.heap.size = zz := ⟨_, rfl⟩
        rw [hQ]
        have G2 := G1.box1 hQ [.slice none 0 0, .slice none 0 0, .int .i64 0] 25
        simp only [List.cons_append, List.nil_append] at G2
        obtain ⟨w2, hw2⟩ : ∃ zz, (w1.alloc (.cells #[.slice none 0 0, .slice none 0 0, .int .i64 0] 25)) = zz := ⟨_, rfl⟩
        rw [hw2] at G2 ⊢
        clear hw2 hQ
        refine hK.out _ _ (fun _ => ⟨G2.c 0 0 rfl rfl, G2.c 0 1 rfl rfl, G2.c 0 2 rfl rfl⟩) trivial (fun hHeld hHeld1 => ?_)
        replace hHeld := hHeld rfl
        clear hK K
        try simp only [Act.put, List.setIfInBounds_toArray, List.set_cons_zero, List.set_cons_succ]
        refine readyJ (rs := [1]) (by kernel_rfl) (by simp) ?_
        refine (AllJ.cons rfl ?op1x4y8z AllJ.nil)
        case op1x4y8z =>
          intro K hK
          go_simp
          go_at_call 46
          refine (copyNumbers_any p cp s w2 (G2.lw 2 rfl) (by omega)).mono ?_
          rintro e w3 ⟨v, rfl, hown, hb⟩
          obtain ⟨a1, c1, rfl, _⟩ := own_shape hown
          have G3 := G2.addO hb hown
          simp only [List.cons_append, List.nil_append] at G3
          clear hown hb
          (try go_wp2_with fail)
          refine hK.out _ _ (fun _ => ⟨G3.c 0 0 rfl rfl, G3.c 0 1 rfl rfl, G3.c 0 2 rfl rfl⟩) trivial (fun hHeld hHeld1 => ?_)
          replace hHeld := hHeld rfl
          clear hK K
          try simp only [Act.put, List.setIfInBounds_toArray, List.set_cons_zero, List.set_cons_succ]
          refine takeJ (i := 7) (dst := (some 15)) (v := ?_) rfl rfl (by kernel_rfl) (by kernel_rfl) (by kernel_rfl) (by kernel_rfl) (fun _ _ _ h => h) (by rfl) ?hy7n9 hHeld trivial ?rest7n9
          case hy7n9 => (intro W hSw; (try dsimp only at hSw); obtain ⟨s0, s1, s2⟩ := hSw; go_simp; (try with_reducible rfl))
          try simp only [Act.put, List.setIfInBounds_toArray, List.set_cons_zero, List.set_cons_succ]
          refine readyJ (rs := [9]) (by kernel_rfl) (by simp) ?_
          refine (AllJ.cons rfl ?op9x4y8y1y7z AllJ.nil)
          case op9x4y8y1y7z =>
            intro K hK
            have e0 := G3.c 2 0 rfl rfl
            have e1 := G3.c 2 1 rfl rfl
            have e2 := G3.c 2 2 rfl rfl
            have ef0 := G3.f 2 0 rfl rfl
            have ef1 := G3.f 2 1 rfl rfl
            have ef2 := G3.f 2 2 rfl rfl
            go_simp
            have G5 := G3.set 2 rfl (by simp) [.slice a1 s.length c1, .slice (some ⟨G, 0, none⟩) s.length s.length, .int .i64 off] rfl
            simp only [setL, Nat.reduceAdd, List.set_cons_zero, List.set_cons_succ] at G5
            clear e0 ef0 e1 ef1 e2 ef2
            refine hK.out _ _ (fun _ => ⟨G5.c 0 0 rfl rfl, G5.c 0 1 rfl rfl, G5.c 0 2 rfl rfl⟩) trivial (fun hHeld hHeld1 => ?_)
            replace hHeld := hHeld rfl
            clear hK K
            try simp only [Act.put, List.setIfInBounds_toArray, List.set_cons_zero, List.set_cons_succ]
            refine doneJ (by kernel_rfl) ?_
            rw [hwz] at G5
            clear hHeld hHeld1
            go_wp2
            go_meet
            exact ⟨Q, a1, c1, G, rfl, Lib.hid G5.swapO⟩
    case op8xz =>
      intro K hK
      go_simp
      obtain ⟨Q, hQ⟩ : ∃ zz, w0.heap.size = zz := ⟨_, rfl⟩
      rw [hQ]
      have G1 := FD.box1 hQ [.slice none 0 0, .slice none 0 0, .int .i64 0] 25
      simp only [List.cons_append, List.nil_append] at G1
      obtain ⟨w1, hw1⟩ : ∃ zz, (w0.alloc (.cells #[.slice none 0 0, .slice none 0 0, .int .i64 0] 25)) = zz := ⟨_, rfl⟩
      rw [hw1] at G1 ⊢
      clear hw1 hQ
      refine hK.out _ _ (fun _ => ⟨G1.c 0 0 rfl rfl, G1.c 0 1 rfl rfl, G1.c 0 2 rfl rfl⟩) trivial (fun hHeld hHeld1 => ?_)
      replace hHeld := hHeld rfl
      clear hK K
      try simp only [Act.put, List.setIfInBounds_toArray, List.set_cons_zero, List.set_cons_succ]
      refine readyJ (rs := [1, 4]) (by kernel_rfl) (by simp) ?_
      refine (AllJ.cons rfl ?op1x8z (AllJ.cons rfl ?op4x8z AllJ.nil))
      case op1x8z =>
        intro K hK
        go_simp
        go_at_call 46
        refine (copyNumbers_any p cp s w1 (G1.lw 2 rfl) (by omega)).mono ?_
        rintro e w2 ⟨v, rfl, hown, hb⟩
        obtain ⟨a1, c1, rfl, _⟩ := own_shape hown
        have G2 := G1.addO hb hown
        simp only [List.cons_append, List.nil_append] at G2
        clear hown hb
        (try go_wp2_with fail)
        refine hK.out _ _ (fun _ => ⟨G2.c 0 0 rfl rfl, G2.c 0 1 rfl rfl, G2.c 0 2 rfl rfl⟩) trivial (fun hHeld hHeld1 => ?_)
        replace hHeld := hHeld rfl
        clear hK K
        try simp only [Act.put, List.setIfInBounds_toArray, List.set_cons_zero, List.set_cons_succ]
        refine readyJ (rs := [4]) (by kernel_rfl) (by simp) ?_
        refine (AllJ.cons rfl ?op4x8y1z AllJ.nil)
        case op4x8y1z =>
          intro K hK
          go_simp
          have G3 := G2.addO ((Below.refl _ _).alloc (Nat.le_refl _) _) (madeRowW w2 w2.heap.size s.length (Nat.le_refl _) (by omega))
          simp only [List.cons_append, List.nil_append] at G3
          obtain ⟨G, hG⟩ : ∃ zz, w2.heap.size = zz := ⟨_, rfl⟩
          rw [hG] at G3 ⊢
          obtain ⟨w3, hw3⟩ : ∃ zz, (w2.alloc (.cells (madeCells #[Value.int .i64 0] s.length) 3)) = zz := ⟨_, rfl⟩
          rw [hw3] at G3 ⊢
          clear hw3 hG
          refine hK.out _ _ (fun _ => ⟨G3.c 0 0 rfl rfl, G3.c 0 1 rfl rfl, G3.c 0 2 rfl rfl⟩) trivial (fun hHeld hHeld1 => ?_)
          replace hHeld := hHeld rfl
          clear hK K
          try simp only [Act.put, List.setIfInBounds_toArray, List.set_cons_zero, List.set_cons_succ]
          refine takeJ (i := 7) (dst := (some 15)) (v := ?_) rfl rfl (by kernel_rfl) (by kernel_rfl) (by kernel_rfl) (by kernel_rfl) (fun _ _ _ h => h) (by rfl) ?hy7n10 hHeld trivial ?rest7n10
          case hy7n10 => (intro W hSw; (try dsimp only at hSw); obtain ⟨s0, s1, s2⟩ := hSw; go_simp; (try with_reducible rfl))
          try simp only [Act.put, List.setIfInBounds_toArray, List.set_cons_zero, List.set_cons_succ]
          refine readyJ (rs := [9]) (by kernel_rfl) (by simp) ?_
          refine (AllJ.cons rfl ?op9x8y1y4y7z AllJ.nil)
          case op9x8y1y4y7z =>
            intro K hK
            have e0 := G3.c 2 0 rfl rfl
            have e1 := G3.c 2 1 rfl rfl
            have e2 := G3.c 2 2 rfl rfl
            have ef0 := G3.f 2 0 rfl rfl
            have ef1 := G3.f 2 1 rfl rfl
            have ef2 := G3.f 2 2 rfl rfl
            go_simp
            have G5 := G3.set 2 rfl (by simp) [.slice a1 s.length c1, .slice (some ⟨G, 0, none⟩) s.length s.length, .int .i64 off] rfl
            simp only [setL, Nat.reduceAdd, List.set_cons_zero, List.set_cons_succ] at G5
            clear e0 ef0 e1 ef1 e2 ef2
            refine hK.out _ _ (fun _ => ⟨G5.c 0 0 rfl rfl, G5.c 0 1 rfl rfl, G5.c 0 2 rfl rfl⟩) trivial (fun hHeld hHeld1 => ?_)
            replace hHeld := hHeld rfl
            clear hK K
            try simp only [Act.put, List.setIfInBounds_toArray, List.set_cons_zero, List.set_cons_succ]
            refine doneJ (by kernel_rfl) ?_
            rw [hwz] at G5
            clear hHeld hHeld1
            go_wp2
            go_meet
            exact ⟨Q, a1, c1, G, rfl, Lib.hid G5⟩
      case op4x8z =>
        intro K hK
        go_simp
        have G2 := G1.addO ((Below.refl _ _).alloc (Nat.le_refl _) _) (madeRowW w1 w1.heap.size s.length (Nat.le_refl _) (by omega))
        simp only [List.cons_append, List.nil_append] at G2
        obtain ⟨G, hG⟩ : ∃ zz, w1.heap.size = zz := ⟨_, rfl⟩
        rw [hG] at G2 ⊢
        obtain ⟨w2, hw2⟩ : ∃ zz, (w1.alloc (.cells (madeCells #[Value.int .i64 0] s.length) 3)) = zz := ⟨_, rfl⟩
        rw [hw2] at G2 ⊢
        clear hw2 hG
        refine hK.out _ _ (fun _ => ⟨G2.c 0 0 rfl rfl, G2.c 0 1 rfl rfl, G2.c 0 2 rfl rfl⟩) trivial (fun hHeld hHeld1 => ?_)
        replace hHeld := hHeld rfl
        clear hK K
        try simp only [Act.put, List.setIfInBounds_toArray, List.set_cons_zero, List.set_cons_succ]
        refine readyJ (rs := [1]) (by kernel_rfl) (by simp) ?_
        refine (AllJ.cons rfl ?op1x8y4z AllJ.nil)
        case op1x8y4z =>
          intro K hK
          go_simp
          go_at_call 46
          refine (copyNumbers_any p cp s w2 (G2.lw 2 rfl) (by omega)).mono ?_
          rintro e w3 ⟨v, rfl, hown, hb⟩
          obtain ⟨a1, c1, rfl, _⟩ := own_shape hown
          have G3 := G2.addO hb hown
          simp only [List.cons_append, List.nil_append] at G3
          clear hown hb
          (try go_wp2_with fail)
          refine hK.out _ _ (fun _ => ⟨G3.c 0 0 rfl rfl, G3.c 0 1 rfl rfl, G3.c 0 2 rfl rfl⟩) trivial (fun hHeld hHeld1 => ?_)
          replace hHeld := hHeld rfl
          clear hK K
          try simp only [Act.put, List.setIfInBounds_toArray, List.set_cons_zero, List.set_cons_succ]
          refine takeJ (i := 7) (dst := (some 15)) (v := ?_) rfl rfl (by kernel_rfl) (by kernel_rfl) (by kernel_rfl) (by kernel_rfl) (fun _ _ _ h => h) (by rfl) ?hy7n11 hHeld trivial ?rest7n11
          case hy7n11 => (intro W hSw; (try dsimp only at hSw); obtain ⟨s0, s1, s2⟩ := hSw; go_simp; (try with_reducible rfl))
          try simp only [Act.put, List.setIfInBounds_toArray, List.set_cons_zero, List.set_cons_succ]
          refine readyJ (rs := [9]) (by kernel_rfl) (by simp) ?_
          refine (AllJ.cons rfl ?op9x8y4y1y7z AllJ.nil)
          case op9x8y4y1y7z =>
            intro K hK
            have e0 := G3.c 2 0 rfl rfl
            have e1 := G3.c 2 1 rfl rfl
            have e2 := G3.c 2 2 rfl rfl
            have ef0 := G3.f 2 0 rfl rfl
            have ef1 := G3.f 2 1 rfl rfl
            have ef2 := G3.f 2 2 rfl rfl
            go_simp
            have G5 := G3.set 2 rfl (by simp) [.slice a1 s.length c1, .slice (some ⟨G, 0, none⟩) s.length s.length, .int .i64 off] rfl
            simp only [setL, Nat.reduceAdd, List.set_cons_zero, List.set_cons_succ] at G5
            clear e0 ef0 e1 ef1 e2 ef2
            refine hK.out _ _ (fun _ => ⟨G5.c 0 0 rfl rfl, G5.c 0 1 rfl rfl, G5.c 0 2 rfl rfl⟩) trivial (fun hHeld hHeld1 => ?_)
            replace hHeld := hHeld rfl
            clear hK K
            try simp only [Act.put, List.setIfInBounds_toArray, List.set_cons_zero, List.set_cons_succ]
            refine doneJ (by kernel_rfl) ?_
            rw [hwz] at G5
            clear hHeld hHeld1
            go_wp2
            go_meet
            exact ⟨Q, a1, c1, G, rfl, Lib.hid G5.swapO⟩
  case rest =>
    obtain ⟨Q, a1, c1, G, rfl, F5⟩ := hcut
    clear F2 hwz hmk
    have d0_0 := F5.out.c 0 0 rfl rfl
    have d0_1 := F5.out.c 0 1 rfl rfl
    have d0_2 := F5.out.c 0 2 rfl rfl
    go_wp2_with fail
    clear d0_0 d0_1 d0_2
    go_loopw [6] (fun sk wr => ∃ k : Nat, k ≤ sh.length ∧ sk = .int .i64 k ∧ Hid (Fr w.heap.size w wr [(w.heap.size, [.slice a sh.length c, .slice b st.length d, .int .i64 off]), (w.heap.size + 1, [.slice none 0 0, .slice none 0 0, .int .i64 0]), (Q, [.slice a1 s.length c1, .slice (some ⟨G, 0, none⟩) s.length s.length, .int .i64 off])] [(.i64, a, sh), (.i64, b, st), (.i64, p, s)] [⟨3, .slice a1 s.length c1, s.length, s.map (Value.int .i64)⟩, ⟨3, .slice (some ⟨G, 0, none⟩) s.length s.length, s.length, (widK sh st s k).map (Value.int .i64)⟩] [])) (fun sk _ => sh.length - (intOf sk).toNat)
    case atStart => exact ⟨0, Nat.zero_le _, rfl, F5⟩
    case round =>
      obtain ⟨k, hk, rfl, F6⟩ := hrel
      clear F5
      obtain ⟨w6, rfl⟩ : ∃ w6 : World, w6 = wr := ⟨_, rfl⟩
      have d0_0 := F6.out.c 0 0 rfl rfl
      have d0_1 := F6.out.c 0 1 rfl rfl
      have d0_2 := F6.out.c 0 2 rfl rfl
      by_cases hlt : k < sh.length
      · skip
        obtain ⟨at_, hat⟩ : ∃ at_ : Nat, s.length - sh.length + k = at_ := ⟨_, rfl⟩
        have hat2 : at_ < s.length := by omega
        have hx0 := fun h9 => widK_eq sh st s k hls hlt h9
        have hx1 := fun h9 => widK_ne sh st s k hls hlt h9
        rw [hat] at hx0 hx1
        obtain ⟨ga, oa, haa, _, hca⟩ := (F6.out.l 0 rfl).cell k hlt
        obtain ⟨gp, op_, hpp, _, hcp⟩ := (F6.out.l 2 rfl).cell at_ hat2
        obtain ⟨gb, ob, hbb, hbl, hcb⟩ := (F6.out.l 1 rfl).cell k (by rw [HLT.out]; exact hlt)
        obtain ⟨x, hx⟩ : ∃ x, sh[k]?.getD 0 = x := ⟨_, rfl⟩
        obtain ⟨y, hy⟩ : ∃ x, s[at_]?.getD 0 = x := ⟨_, rfl⟩
        obtain ⟨z, hz⟩ : ∃ x, st[k]?.getD 0 = x := ⟨_, rfl⟩
        rw [hx] at hca hx0 hx1
        rw [hy] at hcp hx0 hx1
        rw [hz] at hcb hx0
        subst haa
        subst hpp
        subst hbb
        clear hx hy hz
        have HX0 := Lib.hid hx0
        have HX1 := Lib.hid hx1
        have HAT := Lib.hid hat
        clear hx0 hx1 hat
        have hki : (k : Int) < (sh.length : Int) := by omega
        have hai : (at_ : Int) < (s.length : Int) := by omega
        have hbi : (k : Int) < (st.length : Int) := by rw [HLT.out]; exact hki
        have hwr : ∀ [Inhabited Unit], (k : Int) + (s.length : Int) - (sh.length : Int) = (at_ : Int) := by intro _; have := HAT.out; omega
        go_upto_region 6 with fail
        by_cases hxy : x = y
        · skip
          have hxd : decide (x = y) = true := decide_eq_true hxy
          go_quiet (fail)
          go_upto_region 7 with fail
          have F7 := Lib.hid (F6.out.drewN nq)
          obtain ⟨w7, hw7⟩ : ∃ z9, w6.drewN nq = z9 := ⟨_, rfl⟩
          rw [hw7] at F7 ⊢
          have hcb7 := hcb
          rw [show w6.cell? ⟨gb, ob + k, none⟩ = w7.cell? ⟨gb, ob + k, none⟩ by rw [← hw7]; rfl] at hcb7
          clear hw7 F6 hca hcp hcb hxd d0_0 d0_1 d0_2
          have hlw := widK_len sh st s k
          have hget : ((widK sh st s k).map (Value.int .i64))[at_]? = some (.int .i64 ((widK sh st s k)[at_]?.getD 0)) := by
            rw [List.getElem?_map, List.getElem?_eq_getElem (by rw [hlw]; exact hat2)]; rfl
          have HGET := Lib.hid hget
          clear hget hlw
          refine wp_region_parts2 (w := w7) 9 1 none [] [(fun u _ => u = .pointer (some ⟨Q, 1, none⟩)), (fun u _ => u = .slice (some ⟨G, 0, none⟩) s.length s.length), (fun u _ => u = .int .i64 (at_ : Int)), (fun u _ => u = .pointer (some ⟨w.heap.size, 1, none⟩)), (fun u _ => u = .slice (some ⟨gb, ob, none⟩) st.length d), (fun u _ => u = .int .i64 (k : Int)), (fun u _ => u = .pointer (some ⟨gb, ob + k, none⟩)), (fun u _ => u = .int .i64 z), (fun u _ => u = .pointer (some ⟨G, at_, none⟩))] [some 41, some 42, some 43, some 44, some 45, some 46, some 47, some 48, some 49, none] #[true, true, true, true, true, true, true, true, true, false] #[true, true, true, true, true, true, true, true, true, false] (by kernel_rfl) rfl (by kernel_rfl) (by kernel_rfl) rfl (by kernel_rfl) (by kernel_rfl) (.cons (carries_eq _) (.cons (carries_eq _) (.cons (carries_eq _) (.cons (carries_eq _) (.cons (carries_eq _) (.cons (carries_eq _) (.cons (carries_eq _) (.cons (carries_eq _) (.cons (carries_eq _) .nil))))))))) (fun vs b hvl hvb => ?_)
          obtain ⟨x0, x1, x2, x3, x4, x5, x6, x7, x8, x9, rfl⟩ : ∃ x0 x1 x2 x3 x4 x5 x6 x7 x8 x9, vs = [x0, x1, x2, x3, x4, x5, x6, x7, x8, x9] := lst10 hvl
          clear hvl
          simp only [putAll, Act.put, List.setIfInBounds_toArray, List.set_cons_zero, List.set_cons_succ] at hvb
          subst hvb
          refine ⟨(.snoc (.snoc (.snoc (.snoc (.snoc (.snoc (.snoc (.snoc (.snoc .zero (PartOb.intro (d := (some 41)) (r := fun u _ => u = .pointer (some ⟨Q, 1, none⟩)) rfl rfl rfl rfl ?po7x0)) (PartOb.intro (d := (some 42)) (r := fun u _ => u = .slice (some ⟨G, 0, none⟩) s.length s.length) rfl rfl rfl rfl ?po7x1)) (PartOb.intro (d := (some 43)) (r := fun u _ => u = .int .i64 (at_ : Int)) rfl rfl rfl rfl ?po7x2)) (PartOb.intro (d := (some 44)) (r := fun u _ => u = .pointer (some ⟨w.heap.size, 1, none⟩)) rfl rfl rfl rfl ?po7x3)) (PartOb.intro (d := (some 45)) (r := fun u _ => u = .slice (some ⟨gb, ob, none⟩) st.length d) rfl rfl rfl rfl ?po7x4)) (PartOb.intro (d := (some 46)) (r := fun u _ => u = .int .i64 (k : Int)) rfl rfl rfl rfl ?po7x5)) (PartOb.intro (d := (some 47)) (r := fun u _ => u = .pointer (some ⟨gb, ob + k, none⟩)) rfl rfl rfl rfl ?po7x6)) (PartOb.intro (d := (some 48)) (r := fun u _ => u = .int .i64 z) rfl rfl rfl rfl ?po7x7)) (PartOb.intro (d := (some 49)) (r := fun u _ => u = .pointer (some ⟨G, at_, none⟩)) rfl rfl rfl rfl ?po7x8)), ?pend7, ?pfl7⟩
          case po7x0 =>
            intro w1 hb1 hd KK hK
            clear hd
            simp only [Act.put, List.setIfInBounds_toArray, List.set_cons_zero, List.set_cons_succ] at hK
            go_simp
            first | exact hK.out _ _ (Below.refl _ _) rfl | (have hk := hK.out _ _ (Below.refl _ _) rfl; revert hk; go_simp)
          case po7x1 =>
            intro w1 hb1 hd KK hK
            have d0 : x0 = .pointer (some ⟨Q, 1, none⟩) := hd 0 (by kernel_rfl)
            clear hd
            subst d0
            have hF := F7.out.next hb1
            have k0 := hF.c 2 0 rfl rfl
            have k1 := hF.c 2 1 rfl rfl
            have k2 := hF.c 2 2 rfl rfl
            simp only [Act.put, List.setIfInBounds_toArray, List.set_cons_zero, List.set_cons_succ] at hK
            go_simp
            first | exact hK.out _ _ (Below.refl _ _) rfl | (have hk := hK.out _ _ (Below.refl _ _) rfl; revert hk; go_simp)
          case po7x2 =>
            intro w1 hb1 hd KK hK
            clear hd
            simp only [Act.put, List.setIfInBounds_toArray, List.set_cons_zero, List.set_cons_succ] at hK
            go_simp
            first | exact hK.out _ _ (Below.refl _ _) rfl | (have hk := hK.out _ _ (Below.refl _ _) rfl; revert hk; go_simp)
          case po7x3 =>
            intro w1 hb1 hd KK hK
            clear hd
            simp only [Act.put, List.setIfInBounds_toArray, List.set_cons_zero, List.set_cons_succ] at hK
            go_simp
            first | exact hK.out _ _ (Below.refl _ _) rfl | (have hk := hK.out _ _ (Below.refl _ _) rfl; revert hk; go_simp)
          case po7x4 =>
            intro w1 hb1 hd KK hK
            have d3 : x3 = .pointer (some ⟨w.heap.size, 1, none⟩) := hd 3 (by kernel_rfl)
            clear hd
            subst d3
            have hF := F7.out.next hb1
            have k0 := hF.c 0 0 rfl rfl
            have k1 := hF.c 0 1 rfl rfl
            have k2 := hF.c 0 2 rfl rfl
            simp only [Act.put, List.setIfInBounds_toArray, List.set_cons_zero, List.set_cons_succ] at hK
            go_simp
            first | exact hK.out _ _ (Below.refl _ _) rfl | (have hk := hK.out _ _ (Below.refl _ _) rfl; revert hk; go_simp)
          case po7x5 =>
            intro w1 hb1 hd KK hK
            clear hd
            simp only [Act.put, List.setIfInBounds_toArray, List.set_cons_zero, List.set_cons_succ] at hK
            go_simp
            first | exact hK.out _ _ (Below.refl _ _) rfl | (have hk := hK.out _ _ (Below.refl _ _) rfl; revert hk; go_simp)
          case po7x6 =>
            intro w1 hb1 hd KK hK
            have d4 : x4 = .slice (some ⟨gb, ob, none⟩) st.length d := hd 4 (by kernel_rfl)
            have d5 : x5 = .int .i64 (k : Int) := hd 5 (by kernel_rfl)
            clear hd
            subst d4
            subst d5
            simp only [Act.put, List.setIfInBounds_toArray, List.set_cons_zero, List.set_cons_succ] at hK
            go_simp
            first | exact hK.out _ _ (Below.refl _ _) rfl | (have hk := hK.out _ _ (Below.refl _ _) rfl; revert hk; go_simp)
          case po7x7 =>
            intro w1 hb1 hd KK hK
            have d6 : x6 = .pointer (some ⟨gb, ob + k, none⟩) := hd 6 (by kernel_rfl)
            clear hd
            subst d6
            have hcx := (hb1.cell (p := ⟨gb, ob + k, none⟩) (Nat.lt_of_lt_of_le hbl F7.out.hlo)).trans hcb7
            simp only [Act.put, List.setIfInBounds_toArray, List.set_cons_zero, List.set_cons_succ] at hK
            go_simp
            first | exact hK.out _ _ (Below.refl _ _) rfl | (have hk := hK.out _ _ (Below.refl _ _) rfl; revert hk; go_simp)
          case po7x8 =>
            intro w1 hb1 hd KK hK
            have d0 : x0 = .pointer (some ⟨Q, 1, none⟩) := hd 0 (by kernel_rfl)
            have d1 : x1 = .slice (some ⟨G, 0, none⟩) s.length s.length := hd 1 (by kernel_rfl)
            have d2 : x2 = .int .i64 (at_ : Int) := hd 2 (by kernel_rfl)
            have d3 : x3 = .pointer (some ⟨w.heap.size, 1, none⟩) := hd 3 (by kernel_rfl)
            have d4 : x4 = .slice (some ⟨gb, ob, none⟩) st.length d := hd 4 (by kernel_rfl)
            have d5 : x5 = .int .i64 (k : Int) := hd 5 (by kernel_rfl)
            have d6 : x6 = .pointer (some ⟨gb, ob + k, none⟩) := hd 6 (by kernel_rfl)
            have d7 : x7 = .int .i64 z := hd 7 (by kernel_rfl)
            clear hd
            subst d0
            subst d1
            subst d2
            subst d3
            subst d4
            subst d5
            subst d6
            subst d7
            simp only [Act.put, List.setIfInBounds_toArray, List.set_cons_zero, List.set_cons_succ] at hK
            go_simp
            first | exact hK.out _ _ (Below.refl _ _) rfl | (have hk := hK.out _ _ (Below.refl _ _) rfl; revert hk; go_simp)
          case pfl7 => (intro f hf; cases hf)
          case pend7 =>
          intro w1 hb1 hR hD
          have d0 : x0 = .pointer (some ⟨Q, 1, none⟩) := hR 0 (by decide)
          have d1 : x1 = .slice (some ⟨G, 0, none⟩) s.length s.length := hR 1 (by decide)
          have d2 : x2 = .int .i64 (at_ : Int) := hR 2 (by decide)
          have d3 : x3 = .pointer (some ⟨w.heap.size, 1, none⟩) := hR 3 (by decide)
          have d4 : x4 = .slice (some ⟨gb, ob, none⟩) st.length d := hR 4 (by decide)
          have d5 : x5 = .int .i64 (k : Int) := hR 5 (by decide)
          have d6 : x6 = .pointer (some ⟨gb, ob + k, none⟩) := hR 6 (by decide)
          have d7 : x7 = .int .i64 z := hR 7 (by decide)
          have d8 : x8 = .pointer (some ⟨G, at_, none⟩) := hR 8 (by decide)
          clear hR hD
          subst d0
          subst d1
          subst d2
          subst d3
          subst d4
          subst d5
          subst d6
          subst d7
          subst d8
          refine wpAny_ready (rs := [9]) (by kernel_rfl) (by simp) (AllReady.cons rfl (fun KK hK => ?_) AllReady.nil)
          have F8 := F7.out.next hb1
          obtain ⟨r1, r2⟩ := F8.rc 1 at_ rfl HGET.out
          go_simp
          refine hK _ _ ?_
          clear hK KK
          try simp only [putAll, Act.put, List.setIfInBounds_toArray, List.set_cons_zero, List.set_cons_succ]
          refine wpAny_done (by kernel_rfl) ?_ _
          have F9 := Lib.hid (F8.put 1 at_ rfl (.int .i64 z))
          simp only [List.set_cons_zero, List.set_cons_succ] at F9
          rw [← List.map_set, HX0.out hxy] at F9
          clear F8 r1 r2 F7
          go_wp2
          go_roundw
          case rel => exact ⟨k + 1, by omega, by go_num, F9⟩
          case measure => simp [intOf]; omega
        · skip
          have hxd : decide (x = y) = false := decide_eq_false hxy
          have F9 := Lib.hid (F6.out.drewN 0)
          have HX2 := HX1.out hxy
          go_quiet (fail)
          have F7 := Lib.hid (F6.out.drewN nq)
          rw [← HX2] at F7
          go_wp2
          go_roundw
          case rel => exact ⟨k + 1, by omega, by go_num, F7⟩
          case measure => simp [intOf]; omega
      · obtain rfl : k = sh.length := by omega
        have u2_0 := F6.out.c 2 0 rfl rfl
        have u2_1 := F6.out.c 2 1 rfl rfl
        have u2_2 := F6.out.c 2 2 rfl rfl
        have u1_0 := F6.out.c 1 0 rfl rfl
        have u1_1 := F6.out.c 1 1 rfl rfl
        have u1_2 := F6.out.c 1 2 rfl rfl
        have uf1_0 := F6.out.f 1 0 rfl rfl
        have uf1_1 := F6.out.f 1 1 rfl rfl
        have uf1_2 := F6.out.f 1 2 rfl rfl
        go_wp2
        have FZ := F6.out.set 1 rfl (by simp) [.slice a1 s.length c1, .slice (some ⟨G, 0, none⟩) s.length s.length, .int .i64 off] rfl
        simp only [setL, Nat.reduceAdd, List.set_cons_zero, List.set_cons_succ] at FZ
        have y0 := FZ.c 1 0 rfl rfl
        have y1 := FZ.c 1 1 rfl rfl
        have y2 := FZ.c 1 2 rfl rfl
        refine bodyPost_ret (v := .agg #[.slice a1 s.length c1, .slice (some ⟨G, 0, none⟩) s.length s.length, .int .i64 off]) ?_ rfl ⟨a1, c1, some ⟨G, 0, none⟩, s.length, by rw [widL_len], by rw [widL_len]; exact FZ.rows⟩
        rw [results_cV rfl]
        go_simp
set_option maxRecDepth 100000 in
set_option maxHeartbeats 4000000 in
theorem vwiden_good (a b p : Option Addr) (c d cp : Nat) (sh st s : List Int) (off : Int) (w : World) (h : Ints .i64 w w.heap.size a sh) (h2 : Ints .i64 w w.heap.size b st) (h3 : Ints .i64 w w.heap.size p s) (hv : viewB sh st off 65536 = true) (hg : goodB s = true) (hgo : goesB sh s = true) :
    Calls Try.prog 32 #[.agg #[.slice a sh.length c, .slice b st.length d, .int .i64 off], .slice p s.length cp] w (RetVE w s (widL sh st s) off 0) := by
  have HA := Lib.hid h
  have HB := Lib.hid h2
  have HP := Lib.hid h3
  have hv0 := viewB_iff.1 hv
  have h4 := (goodB_iff.1 hv0.1).1
  have h5 := (goodB_iff.1 hg).1
  have HLT := Lib.hid hv0.2.1
  have hls := (goes_facts (goodB_dims hv0.1) hgo).1
  have hgv := fun W (h : Ints .i64 W W.heap.size a sh) (h2 : Ints .i64 W W.heap.size b st) => vgood_any a b c d W.heap.size sh st off 65536 W h h2 (Nat.le_refl _)
  have hgd := fun W (h : Ints .i64 W W.heap.size p s) => good_any p cp _ s W h
  rw [hv] at hgv
  rw [hg] at hgd
  have HSE : spreadE sh s = 0 ∧ spreadR sh s = s := by unfold goesB at hgo; rw [Bool.and_eq_true, decide_eq_true_eq, decide_eq_true_eq] at hgo; exact hgo
  have HBO := Lib.hid (fun W (h : Ints .i64 W W.heap.size a sh) (h2 : Ints .i64 W W.heap.size p s) => both_any a p c cp sh s W h h2 hv0.1 hg)
  unfold RetSpread at HBO
  rw [HSE.1, HSE.2] at HBO
  have HPW := Lib.hid h3.wf
  have hmk := make_intsW s.length (by omega)
  clear h h2 h3 hv hg hgo hv0 HSE
  go_enter Try.func32, Try.ntmps32
  have F1 := Lib.hid (((Fr.start (w := w) (I := [(.i64, a, sh), (.i64, b, st), (.i64, p, s)]) (by intro z hz; simp at hz; rcases hz with rfl | rfl | rfl; exact HA.out; exact HB.out; exact HP.out)).box1 (b := w.heap.size) rfl [.slice a sh.length c, .slice b st.length d, .int .i64 off] 25).box1 (b := w.heap.size + 1) (by simp) [.slice none 0 0, .slice none 0 0, .int .i64 0] 25)
  simp only [List.nil_append, List.cons_append] at F1
  go_upto_region 1 with fail
  obtain ⟨W1, hW1⟩ : ∃ W1, ((w.alloc (.cells #[.slice a sh.length c, .slice b st.length d, .int .i64 off] 25)).alloc (.cells #[.slice none 0 0, .slice none 0 0, .int .i64 0] 25)) = W1 := ⟨_, rfl⟩
  rw [hW1] at F1 ⊢
  clear hW1
  have c0_0 := F1.out.c 0 0 rfl rfl
  have c0_1 := F1.out.c 0 1 rfl rfl
  have c0_2 := F1.out.c 0 2 rfl rfl
  go_upto_region 6 with (first | (go_at_call 49; refine (hgv _ (F1.out.lw 0 rfl) (F1.out.lw 1 rfl)).mono ?_; rintro e w2 ⟨rfl, hb⟩; have F2 := Lib.hid (F1.out.next hb); clear hb F1 c0_0 c0_1 c0_2; have d0_0 := F2.out.c 0 0 rfl rfl; have d0_1 := F2.out.c 0 1 rfl rfl; have d0_2 := F2.out.c 0 2 rfl rfl) | (go_at_call 54; refine (hgd _ (F2.out.lw 2 rfl)).mono ?_; rintro e w' ⟨rfl, rfl⟩; skip) | (go_at_call 60; refine (HBO.out _ (F2.out.lw 0 rfl) (F2.out.lw 2 rfl)).mono ?_; rintro e w3 ⟨v, rfl, hown, hb⟩; obtain ⟨a3, c3, rfl, _⟩ := own_shape hown; have F3 := Lib.hid (F2.out.addO hb hown); simp only [List.nil_append, List.cons_append] at F3; clear hown hb F2 d0_0 d0_1 d0_2) | (go_at_call 55; refine (slicesEqual_any a3 p c3 cp _ s s _ (F3.out.li 0 (k := .i64) (xs := s) rfl HPW.out) (F3.out.lw 2 rfl)).mono ?_; rintro e w' ⟨rfl, q4, rfl⟩; simp only [decide_true]; have F4 := Lib.hid ((F3.out.drewN q4).less (.refl _) (.refl _) (by simp : List.Sublist [] _) (.refl _)); clear F3) | fail)
  obtain ⟨wk, hwk⟩ : ∃ z : World, w3.drewN q4 = z := ⟨_, rfl⟩
  rw [hwk] at F4 ⊢
  clear hwk
  have F2 := F4
  clear F4
  clear hgv hgd HBO
  have hwz : (List.replicate s.length (0 : Int)) = widK sh st s 0 := (widK_zero sh st s).symm
  go_cut [8] from 36 to 43 (fun sb wx => ∃ Q a1 c1 G, sb = .pointer (some ⟨Q, 0, none⟩) ∧ Hid (Fr w.heap.size w wx [(w.heap.size, [.slice a sh.length c, .slice b st.length d, .int .i64 off]), (w.heap.size + 1, [.slice none 0 0, .slice none 0 0, .int .i64 0]), (Q, [.slice a1 s.length c1, .slice (some ⟨G, 0, none⟩) s.length s.length, .int .i64 off])] [(.i64, a, sh), (.i64, b, st), (.i64, p, s)] [⟨3, .slice a1 s.length c1, s.length, s.map (Value.int .i64)⟩, ⟨3, .slice (some ⟨G, 0, none⟩) s.length s.length, s.length, (widK sh st s 0).map (Value.int .i64)⟩] []))
  case first =>
    have FD := F2.out.drew
    refine wp_region_J (S := fun W => W.cell? ⟨w.heap.size, 0, none⟩ = some (.slice a sh.length c) ∧ W.cell? ⟨w.heap.size, 1, none⟩ = some (.slice b st.length d) ∧ W.cell? ⟨w.heap.size, 2, none⟩ = some (.int .i64 off)) (S1 := fun _ => True) (L := []) (by kernel_rfl) ⟨FD.c 0 0 rfl rfl, FD.c 0 1 rfl rfl, FD.c 0 2 rfl rfl⟩ trivial (fun hHeld hHeld1 => ?_)
    obtain ⟨w0, hw0⟩ : ∃ zz, wk.drew = zz := ⟨_, rfl⟩
    rw [hw0] at FD hHeld ⊢
    clear hw0 F2
    refine takeJ (i := 0) (dst := (some 36)) (v := ?_) rfl rfl (by kernel_rfl) (by kernel_rfl) (by kernel_rfl) (by kernel_rfl) (fun _ _ _ h => h) (by rfl) ?hy0n1 hHeld trivial ?rest0n1
    case hy0n1 => (intro W hSw; (try dsimp only at hSw); obtain ⟨s0, s1, s2⟩ := hSw; go_simp; (try with_reducible rfl))
    try simp only [Act.put, List.setIfInBounds_toArray, List.set_cons_zero, List.set_cons_succ]
    refine takeJ (i := 2) (dst := (some 38)) (v := ?_) rfl rfl (by kernel_rfl) (by kernel_rfl) (by kernel_rfl) (by kernel_rfl) (fun _ _ _ h => h) (by rfl) ?hy2n2 hHeld trivial ?rest2n2
    case hy2n2 => (intro W hSw; (try dsimp only at hSw); obtain ⟨s0, s1, s2⟩ := hSw; go_simp; (try with_reducible rfl))
    try simp only [Act.put, List.setIfInBounds_toArray, List.set_cons_zero, List.set_cons_succ]
    refine takeJ (i := 3) (dst := (some 39)) (v := ?_) rfl rfl (by kernel_rfl) (by kernel_rfl) (by kernel_rfl) (by kernel_rfl) (fun _ _ _ h => h) (by rfl) ?hy3n3 hHeld trivial ?rest3n3
    case hy3n3 => (intro W hSw; (try dsimp only at hSw); obtain ⟨s0, s1, s2⟩ := hSw; go_simp; (try with_reducible rfl))
    try simp only [Act.put, List.setIfInBounds_toArray, List.set_cons_zero, List.set_cons_succ]
    refine takeJ (i := 5) (dst := (some 41)) (v := ?_) rfl rfl (by kernel_rfl) (by kernel_rfl) (by kernel_rfl) (by kernel_rfl) (fun _ _ _ h => h) (by rfl) ?hy5n4 hHeld trivial ?rest5n4
    case hy5n4 => (intro W hSw; (try dsimp only at hSw); obtain ⟨s0, s1, s2⟩ := hSw; go_simp; (try with_reducible rfl))
    try simp only [Act.put, List.setIfInBounds_toArray, List.set_cons_zero, List.set_cons_succ]
    refine takeJ (i := 6) (dst := (some 42)) (v := ?_) rfl rfl (by kernel_rfl) (by kernel_rfl) (by kernel_rfl) (by kernel_rfl) (fun _ _ _ h => h) (by rfl) ?hy6n5 hHeld trivial ?rest6n5
    case hy6n5 => (intro W hSw; (try dsimp only at hSw); obtain ⟨s0, s1, s2⟩ := hSw; go_simp; (try with_reducible rfl))
    try simp only [Act.put, List.setIfInBounds_toArray, List.set_cons_zero, List.set_cons_succ]
    refine readyJ (rs := [1, 4, 8]) (by kernel_rfl) (by simp) ?_
    refine (AllJ.cons rfl ?op1xz (AllJ.cons rfl ?op4xz (AllJ.cons rfl ?op8xz AllJ.nil)))
    case op1xz =>
      intro K hK
      go_simp
      go_at_call 51
      refine (clone_any p cp s w0 (FD.lw 2 rfl) (by omega)).mono ?_
      rintro e w1 ⟨v, rfl, hown, hb⟩
      obtain ⟨a1, c1, rfl, _⟩ := own_shape hown
      have G1 := FD.addO hb hown
      simp only [List.cons_append, List.nil_append] at G1
      clear hown hb
      (try go_wp2_with fail)
      refine hK.out _ _ (fun _ => ⟨G1.c 0 0 rfl rfl, G1.c 0 1 rfl rfl, G1.c 0 2 rfl rfl⟩) trivial (fun hHeld hHeld1 => ?_)
      replace hHeld := hHeld rfl
      clear hK K
      try simp only [Act.put, List.setIfInBounds_toArray, List.set_cons_zero, List.set_cons_succ]
      refine readyJ (rs := [4, 8]) (by kernel_rfl) (by simp) ?_
      refine (AllJ.cons rfl ?op4x1z (AllJ.cons rfl ?op8x1z AllJ.nil))
      case op4x1z =>
        intro K hK
        go_simp
        have G2 := G1.addO ((Below.refl _ _).alloc (Nat.le_refl _) _) (madeRowW w1 w1.heap.size s.length (Nat.le_refl _) (by omega))
        simp only [List.cons_append, List.nil_append] at G2
        obtain ⟨G, hG⟩ : ∃ zz, w1.heap.size = zz := ⟨_, rfl⟩
        rw [hG] at G2 ⊢
        obtain ⟨w2, hw2⟩ : ∃ zz, (w1.alloc (.cells (madeCells #[Value.int .i64 0] s.length) 3)) = zz := ⟨_, rfl⟩
        rw [hw2] at G2 ⊢
        clear hw2 hG
        refine hK.out _ _ (fun _ => ⟨G2.c 0 0 rfl rfl, G2.c 0 1 rfl rfl, G2.c 0 2 rfl rfl⟩) trivial (fun hHeld hHeld1 => ?_)
        replace hHeld := hHeld rfl
        clear hK K
        try simp only [Act.put, List.setIfInBounds_toArray, List.set_cons_zero, List.set_cons_succ]
        refine takeJ (i := 7) (dst := (some 43)) (v := ?_) rfl rfl (by kernel_rfl) (by kernel_rfl) (by kernel_rfl) (by kernel_rfl) (fun _ _ _ h => h) (by rfl) ?hy7n6 hHeld trivial ?rest7n6
        case hy7n6 => (intro W hSw; (try dsimp only at hSw); obtain ⟨s0, s1, s2⟩ := hSw; go_simp; (try with_reducible rfl))
        try simp only [Act.put, List.setIfInBounds_toArray, List.set_cons_zero, List.set_cons_succ]
        refine readyJ (rs := [8]) (by kernel_rfl) (by simp) ?_
        refine (AllJ.cons rfl ?op8x1y4y7z AllJ.nil)
        case op8x1y4y7z =>
          intro K hK
          go_simp
          obtain ⟨Q, hQ⟩ : ∃ zz, w2.heap.size = zz := ⟨_, rfl⟩
          rw [hQ]
          have G4 := G2.box1 hQ [.slice none 0 0, .slice none 0 0, .int .i64 0] 25
          simp only [List.cons_append, List.nil_append] at G4
          obtain ⟨w4, hw4⟩ : ∃ zz, (w2.alloc (.cells #[.slice none 0 0, .slice none 0 0, .int .i64 0] 25)) = zz := ⟨_, rfl⟩
          rw [hw4] at G4 ⊢
          clear hw4 hQ
          refine hK.out _ _ (fun _ => ⟨G4.c 0 0 rfl rfl, G4.c 0 1 rfl rfl, G4.c 0 2 rfl rfl⟩) trivial (fun hHeld hHeld1 => ?_)
          replace hHeld := hHeld rfl
          clear hK K
          try simp only [Act.put, List.setIfInBounds_toArray, List.set_cons_zero, List.set_cons_succ]
          refine readyJ (rs := [9]) (by kernel_rfl) (by simp) ?_
          refine (AllJ.cons rfl ?op9x1y4y7y8z AllJ.nil)
          case op9x1y4y7y8z =>
            intro K hK
            have e0 := G4.c 2 0 rfl rfl
            have e1 := G4.c 2 1 rfl rfl
            have e2 := G4.c 2 2 rfl rfl
            have ef0 := G4.f 2 0 rfl rfl
            have ef1 := G4.f 2 1 rfl rfl
            have ef2 := G4.f 2 2 rfl rfl
            go_simp
            have G5 := G4.set 2 rfl (by simp) [.slice a1 s.length c1, .slice (some ⟨G, 0, none⟩) s.length s.length, .int .i64 off] rfl
            simp only [setL, Nat.reduceAdd, List.set_cons_zero, List.set_cons_succ] at G5
            clear e0 ef0 e1 ef1 e2 ef2
            refine hK.out _ _ (fun _ => ⟨G5.c 0 0 rfl rfl, G5.c 0 1 rfl rfl, G5.c 0 2 rfl rfl⟩) trivial (fun hHeld hHeld1 => ?_)
            replace hHeld := hHeld rfl
            clear hK K
            try simp only [Act.put, List.setIfInBounds_toArray, List.set_cons_zero, List.set_cons_succ]
            refine doneJ (by kernel_rfl) ?_
            rw [hwz] at G5
            clear hHeld hHeld1
            go_wp2
            go_meet
            exact ⟨Q, a1, c1, G, rfl, Lib.hid G5⟩
      case op8x1z =>
        intro K hK
        go_simp
        obtain ⟨Q, hQ⟩ : ∃ zz, w1.heap.size = zz := ⟨_, rfl⟩
        rw [hQ]
        have G2 := G1.box1 hQ [.slice none 0 0, .slice none 0 0, .int .i64 0] 25
        simp only [List.cons_append, List.nil_append] at G2
        obtain ⟨w2, hw2⟩ : ∃ zz, (w1.alloc (.cells #[.slice none 0 0, .slice none 0 0, .int .i64 0] 25)) = zz := ⟨_, rfl⟩
        rw [hw2] at G2 ⊢
        clear hw2 hQ
        refine hK.out _ _ (fun _ => ⟨G2.c 0 0 rfl rfl, G2.c 0 1 rfl rfl, G2.c 0 2 rfl rfl⟩) trivial (fun hHeld hHeld1 => ?_)
        replace hHeld := hHeld rfl
        clear hK K
        try simp only [Act.put, List.setIfInBounds_toArray, List.set_cons_zero, List.set_cons_succ]
        refine readyJ (rs := [4]) (by kernel_rfl) (by simp) ?_
        refine (AllJ.cons rfl ?op4x1y8z AllJ.nil)
        case op4x1y8z =>
          intro K hK
          go_simp
          have G3 := G2.addO ((Below.refl _ _).alloc (Nat.le_refl _) _) (madeRowW w2 w2.heap.size s.length (Nat.le_refl _) (by omega))
          simp only [List.cons_append, List.nil_append] at G3
          obtain ⟨G, hG⟩ : ∃ zz, w2.heap.size = zz := ⟨_, rfl⟩
          rw [hG] at G3 ⊢
          obtain ⟨w3, hw3⟩ : ∃ zz, (w2.alloc (.cells (madeCells #[Value.int .i64 0] s.length) 3)) = zz := ⟨_, rfl⟩
          rw [hw3] at G3 ⊢
          clear hw3 hG
          refine hK.out _ _ (fun _ => ⟨G3.c 0 0 rfl rfl, G3.c 0 1 rfl rfl, G3.c 0 2 rfl rfl⟩) trivial (fun hHeld hHeld1 => ?_)
          replace hHeld := hHeld rfl
          clear hK K
          try simp only [Act.put, List.setIfInBounds_toArray, List.set_cons_zero, List.set_cons_succ]
          refine takeJ (i := 7) (dst := (some 43)) (v := ?_) rfl rfl (by kernel_rfl) (by kernel_rfl) (by kernel_rfl) (by kernel_rfl) (fun _ _ _ h => h) (by rfl) ?hy7n7 hHeld trivial ?rest7n7
          case hy7n7 => (intro W hSw; (try dsimp only at hSw); obtain ⟨s0, s1, s2⟩ := hSw; go_simp; (try with_reducible rfl))
          try simp only [Act.put, List.setIfInBounds_toArray, List.set_cons_zero, List.set_cons_succ]
          refine readyJ (rs := [9]) (by kernel_rfl) (by simp) ?_
          refine (AllJ.cons rfl ?op9x1y8y4y7z AllJ.nil)
          case op9x1y8y4y7z =>
            intro K hK
            have e0 := G3.c 2 0 rfl rfl
            have e1 := G3.c 2 1 rfl rfl
            have e2 := G3.c 2 2 rfl rfl
            have ef0 := G3.f 2 0 rfl rfl
            have ef1 := G3.f 2 1 rfl rfl
            have ef2 := G3.f 2 2 rfl rfl
            go_simp
            have G5 := G3.set 2 rfl (by simp) [.slice a1 s.length c1, .slice (some ⟨G, 0, none⟩) s.length s.length, .int .i64 off] rfl
            simp only [setL, Nat.reduceAdd, List.set_cons_zero, List.set_cons_succ] at G5
            clear e0 ef0 e1 ef1 e2 ef2
            refine hK.out _ _ (fun _ => ⟨G5.c 0 0 rfl rfl, G5.c 0 1 rfl rfl, G5.c 0 2 rfl rfl⟩) trivial (fun hHeld hHeld1 => ?_)
            replace hHeld := hHeld rfl
            clear hK K
            try simp only [Act.put, List.setIfInBounds_toArray, List.set_cons_zero, List.set_cons_succ]
            refine doneJ (by kernel_rfl) ?_
            rw [hwz] at G5
            clear hHeld hHeld1
            go_wp2
            go_meet
            exact ⟨Q, a1, c1, G, rfl, Lib.hid G5⟩
    case op4xz =>
      intro K hK
      go_simp
      have G1 := FD.addO ((Below.refl _ _).alloc (Nat.le_refl _) _) (madeRowW w0 w0.heap.size s.length (Nat.le_refl _) (by omega))
      simp only [List.cons_append, List.nil_append] at G1
      obtain ⟨G, hG⟩ : ∃ zz, w0.heap.size = zz := ⟨_, rfl⟩
      rw [hG] at G1 ⊢
      obtain ⟨w1, hw1⟩ : ∃ zz, (w0.alloc (.cells (madeCells #[Value.int .i64 0] s.length) 3)) = zz := ⟨_, rfl⟩
      rw [hw1] at G1 ⊢
      clear hw1 hG
      refine hK.out _ _ (fun _ => ⟨G1.c 0 0 rfl rfl, G1.c 0 1 rfl rfl, G1.c 0 2 rfl rfl⟩) trivial (fun hHeld hHeld1 => ?_)
      replace hHeld := hHeld rfl
      clear hK K
      try simp only [Act.put, List.setIfInBounds_toArray, List.set_cons_zero, List.set_cons_succ]
      refine readyJ (rs := [1, 8]) (by kernel_rfl) (by simp) ?_
      refine (AllJ.cons rfl ?op1x4z (AllJ.cons rfl ?op8x4z AllJ.nil))
      case op1x4z =>
        intro K hK
        go_simp
        go_at_call 51
        refine (clone_any p cp s w1 (G1.lw 2 rfl) (by omega)).mono ?_
        rintro e w2 ⟨v, rfl, hown, hb⟩
        obtain ⟨a1, c1, rfl, _⟩ := own_shape hown
        have G2 := G1.addO hb hown
        simp only [List.cons_append, List.nil_append] at G2
        clear hown hb
        (try go_wp2_with fail)
        refine hK.out _ _ (fun _ => ⟨G2.c 0 0 rfl rfl, G2.c 0 1 rfl rfl, G2.c 0 2 rfl rfl⟩) trivial (fun hHeld hHeld1 => ?_)
        replace hHeld := hHeld rfl
        clear hK K
        try simp only [Act.put, List.setIfInBounds_toArray, List.set_cons_zero, List.set_cons_succ]
        refine takeJ (i := 7) (dst := (some 43)) (v := ?_) rfl rfl (by kernel_rfl) (by kernel_rfl) (by kernel_rfl) (by kernel_rfl) (fun _ _ _ h => h) (by rfl) ?hy7n8 hHeld trivial ?rest7n8
        case hy7n8 => (intro W hSw; (try dsimp only at hSw); obtain ⟨s0, s1, s2⟩ := hSw; go_simp; (try with_reducible rfl))
        try simp only [Act.put, List.setIfInBounds_toArray, List.set_cons_zero, List.set_cons_succ]
        refine readyJ (rs := [8]) (by kernel_rfl) (by simp) ?_
        refine (AllJ.cons rfl ?op8x4y1y7z AllJ.nil)
        case op8x4y1y7z =>
          intro K hK
          go_simp
          obtain ⟨Q, hQ⟩ : ∃ zz, w2.heap.size = zz := ⟨_, rfl⟩
          rw [hQ]
          have G4 := G2.box1 hQ [.slice none 0 0, .slice none 0 0, .int .i64 0] 25
          simp only [List.cons_append, List.nil_append] at G4
          obtain ⟨w4, hw4⟩ : ∃ zz, (w2.alloc (.cells #[.slice none 0 0, .slice none 0 0, .int .i64 0] 25)) = zz := ⟨_, rfl⟩
          rw [hw4] at G4 ⊢
          clear hw4 hQ
          refine hK.out _ _ (fun _ => ⟨G4.c 0 0 rfl rfl, G4.c 0 1 rfl rfl, G4.c 0 2 rfl rfl⟩) trivial (fun hHeld hHeld1 => ?_)
          replace hHeld := hHeld rfl
          clear hK K
          try simp only [Act.put, List.setIfInBounds_toArray, List.set_cons_zero, List.set_cons_succ]
          refine readyJ (rs := [9]) (by kernel_rfl) (by simp) ?_
          refine (AllJ.cons rfl ?op9x4y1y7y8z AllJ.nil)
          case op9x4y1y7y8z =>
            intro K hK
            have e0 := G4.c 2 0 rfl rfl
            have e1 := G4.c 2 1 rfl rfl
            have e2 := G4.c 2 2 rfl rfl
            have ef0 := G4.f 2 0 rfl rfl
            have ef1 := G4.f 2 1 rfl rfl
            have ef2 := G4.f 2 2 rfl rfl
            go_simp
            have G5 := G4.set 2 rfl (by simp) [.slice a1 s.length c1, .slice (some ⟨G, 0, none⟩) s.length s.length, .int .i64 off] rfl
            simp only [setL, Nat.reduceAdd, List.set_cons_zero, List.set_cons_succ] at G5
            clear e0 ef0 e1 ef1 e2 ef2
            refine hK.out _ _ (fun _ => ⟨G5.c 0 0 rfl rfl, G5.c 0 1 rfl rfl, G5.c 0 2 rfl rfl⟩) trivial (fun hHeld hHeld1 => ?_)
            replace hHeld := hHeld rfl
            clear hK K
            try simp only [Act.put, List.setIfInBounds_toArray, List.set_cons_zero, List.set_cons_succ]
            refine doneJ (by kernel_rfl) ?_
            rw [hwz] at G5
            clear hHeld hHeld1
            go_wp2
            go_meet
            exact ⟨Q, a1, c1, G, rfl, Lib.hid G5.swapO⟩
      case op8x4z =>
        intro K hK
        go_simp
        obtain ⟨Q, hQ⟩ : ∃ zz, w1.heap.size = zz := ⟨_, rfl⟩
        rw [hQ]
        have G2 := G1.box1 hQ [.slice none 0 0, .slice none 0 0, .int .i64 0] 25
        simp only [List.cons_append, List.nil_append] at G2
        obtain ⟨w2, hw2⟩ : ∃ zz, (w1.alloc (.cells #[.slice none 0 0, .slice none 0 0, .int .i64 0] 25)) = zz := ⟨_, rfl⟩
        rw [hw2] at G2 ⊢
        clear hw2 hQ
        refine hK.out _ _ (fun _ => ⟨G2.c 0 0 rfl rfl, G2.c 0 1 rfl rfl, G2.c 0 2 rfl rfl⟩) trivial (fun hHeld hHeld1 => ?_)
        replace hHeld := hHeld rfl
        clear hK K
        try simp only [Act.put, List.setIfInBounds_toArray, List.set_cons_zero, List.set_cons_succ]
        refine readyJ (rs := [1]) (by kernel_rfl) (by simp) ?_
        refine (AllJ.cons rfl ?op1x4y8z AllJ.nil)
        case op1x4y8z =>
          intro K hK
          go_simp
          go_at_call 51
          refine (clone_any p cp s w2 (G2.lw 2 rfl) (by omega)).mono ?_
          rintro e w3 ⟨v, rfl, hown, hb⟩
          obtain ⟨a1, c1, rfl, _⟩ := own_shape hown
          have G3 := G2.addO hb hown
          simp only [List.cons_append, List.nil_append] at G3
          clear hown hb
          (try go_wp2_with fail)
          refine hK.out _ _ (fun _ => ⟨G3.c 0 0 rfl rfl, G3.c 0 1 rfl rfl, G3.c 0 2 rfl rfl⟩) trivial (fun hHeld hHeld1 => ?_)
          replace hHeld := hHeld rfl
          clear hK K
          try simp only [Act.put, List.setIfInBounds_toArray, List.set_cons_zero, List.set_cons_succ]
          refine takeJ (i := 7) (dst := (some 43)) (v := ?_) rfl rfl (by kernel_rfl) (by kernel_rfl) (by kernel_rfl) (by kernel_rfl) (fun _ _ _ h => h) (by rfl) ?hy7n9 hHeld trivial ?rest7n9
          case hy7n9 => (intro W hSw; (try dsimp only at hSw); obtain ⟨s0, s1, s2⟩ := hSw; go_simp; (try with_reducible rfl))
          try simp only [Act.put, List.setIfInBounds_toArray, List.set_cons_zero, List.set_cons_succ]
          refine readyJ (rs := [9]) (by kernel_rfl) (by simp) ?_
          refine (AllJ.cons rfl ?op9x4y8y1y7z AllJ.nil)
          case op9x4y8y1y7z =>
            intro K hK
            have e0 := G3.c 2 0 rfl rfl
            have e1 := G3.c 2 1 rfl rfl
            have e2 := G3.c 2 2 rfl rfl
            have ef0 := G3.f 2 0 rfl rfl
            have ef1 := G3.f 2 1 rfl rfl
            have ef2 := G3.f 2 2 rfl rfl
            go_simp
            have G5 := G3.set 2 rfl (by simp) [.slice a1 s.length c1, .slice (some ⟨G, 0, none⟩) s.length s.length, .int .i64 off] rfl
            simp only [setL, Nat.reduceAdd, List.set_cons_zero, List.set_cons_succ] at G5
            clear e0 ef0 e1 ef1 e2 ef2
            refine hK.out _ _ (fun _ => ⟨G5.c 0 0 rfl rfl, G5.c 0 1 rfl rfl, G5.c 0 2 rfl rfl⟩) trivial (fun hHeld hHeld1 => ?_)
            replace hHeld := hHeld rfl
            clear hK K
            try simp only [Act.put, List.setIfInBounds_toArray, List.set_cons_zero, List.set_cons_succ]
            refine doneJ (by kernel_rfl) ?_
            rw [hwz] at G5
            clear hHeld hHeld1
            go_wp2
            go_meet
            exact ⟨Q, a1, c1, G, rfl, Lib.hid G5.swapO⟩
    case op8xz =>
      intro K hK
      go_simp
      obtain ⟨Q, hQ⟩ : ∃ zz, w0.heap.size = zz := ⟨_, rfl⟩
      rw [hQ]
      have G1 := FD.box1 hQ [.slice none 0 0, .slice none 0 0, .int .i64 0] 25
      simp only [List.cons_append, List.nil_append] at G1
      obtain ⟨w1, hw1⟩ : ∃ zz, (w0.alloc (.cells #[.slice none 0 0, .slice none 0 0, .int .i64 0] 25)) = zz := ⟨_, rfl⟩
      rw [hw1] at G1 ⊢
      clear hw1 hQ
      refine hK.out _ _ (fun _ => ⟨G1.c 0 0 rfl rfl, G1.c 0 1 rfl rfl, G1.c 0 2 rfl rfl⟩) trivial (fun hHeld hHeld1 => ?_)
      replace hHeld := hHeld rfl
      clear hK K
      try simp only [Act.put, List.setIfInBounds_toArray, List.set_cons_zero, List.set_cons_succ]
      refine readyJ (rs := [1, 4]) (by kernel_rfl) (by simp) ?_
      refine (AllJ.cons rfl ?op1x8z (AllJ.cons rfl ?op4x8z AllJ.nil))
      case op1x8z =>
        intro K hK
        go_simp
        go_at_call 51
        refine (clone_any p cp s w1 (G1.lw 2 rfl) (by omega)).mono ?_
        rintro e w2 ⟨v, rfl, hown, hb⟩
        obtain ⟨a1, c1, rfl, _⟩ := own_shape hown
        have G2 := G1.addO hb hown
        simp only [List.cons_append, List.nil_append] at G2
        clear hown hb
        (try go_wp2_with fail)
        refine hK.out _ _ (fun _ => ⟨G2.c 0 0 rfl rfl, G2.c 0 1 rfl rfl, G2.c 0 2 rfl rfl⟩) trivial (fun hHeld hHeld1 => ?_)
        replace hHeld := hHeld rfl
        clear hK K
        try simp only [Act.put, List.setIfInBounds_toArray, List.set_cons_zero, List.set_cons_succ]
        refine readyJ (rs := [4]) (by kernel_rfl) (by simp) ?_
        refine (AllJ.cons rfl ?op4x8y1z AllJ.nil)
        case op4x8y1z =>
          intro K hK
          go_simp
          have G3 := G2.addO ((Below.refl _ _).alloc (Nat.le_refl _) _) (madeRowW w2 w2.heap.size s.length (Nat.le_refl _) (by omega))
          simp only [List.cons_append, List.nil_append] at G3
          obtain ⟨G, hG⟩ : ∃ zz, w2.heap.size = zz := ⟨_, rfl⟩
          rw [hG] at G3 ⊢
          obtain ⟨w3, hw3⟩ : ∃ zz, (w2.alloc (.cells (madeCells #[Value.int .i64 0] s.length) 3)) = zz := ⟨_, rfl⟩
          rw [hw3] at G3 ⊢
          clear hw3 hG
          refine hK.out _ _ (fun _ => ⟨G3.c 0 0 rfl rfl, G3.c 0 1 rfl rfl, G3.c 0 2 rfl rfl⟩) trivial (fun hHeld hHeld1 => ?_)
          replace hHeld := hHeld rfl
          clear hK K
          try simp only [Act.put, List.setIfInBounds_toArray, List.set_cons_zero, List.set_cons_succ]
          refine takeJ (i := 7) (dst := (some 43)) (v := ?_) rfl rfl (by kernel_rfl) (by kernel_rfl) (by kernel_rfl) (by kernel_rfl) (fun _ _ _ h => h) (by rfl) ?hy7n10 hHeld trivial ?rest7n10
          case hy7n10 => (intro W hSw; (try dsimp only at hSw); obtain ⟨s0, s1, s2⟩ := hSw; go_simp; (try with_reducible rfl))
          try simp only [Act.put, List.setIfInBounds_toArray, List.set_cons_zero, List.set_cons_succ]
          refine readyJ (rs := [9]) (by kernel_rfl) (by simp) ?_
          refine (AllJ.cons rfl ?op9x8y1y4y7z AllJ.nil)
          case op9x8y1y4y7z =>
            intro K hK
            have e0 := G3.c 2 0 rfl rfl
            have e1 := G3.c 2 1 rfl rfl
            have e2 := G3.c 2 2 rfl rfl
            have ef0 := G3.f 2 0 rfl rfl
            have ef1 := G3.f 2 1 rfl rfl
            have ef2 := G3.f 2 2 rfl rfl
            go_simp
            have G5 := G3.set 2 rfl (by simp) [.slice a1 s.length c1, .slice (some ⟨G, 0, none⟩) s.length s.length, .int .i64 off] rfl
            simp only [setL, Nat.reduceAdd, List.set_cons_zero, List.set_cons_succ] at G5
            clear e0 ef0 e1 ef1 e2 ef2
            refine hK.out _ _ (fun _ => ⟨G5.c 0 0 rfl rfl, G5.c 0 1 rfl rfl, G5.c 0 2 rfl rfl⟩) trivial (fun hHeld hHeld1 => ?_)
            replace hHeld := hHeld rfl
            clear hK K
            try simp only [Act.put, List.setIfInBounds_toArray, List.set_cons_zero, List.set_cons_succ]
            refine doneJ (by kernel_rfl) ?_
            rw [hwz] at G5
            clear hHeld hHeld1
            go_wp2
            go_meet
            exact ⟨Q, a1, c1, G, rfl, Lib.hid G5⟩
      case op4x8z =>
        intro K hK
        go_simp
        have G2 := G1.addO ((Below.refl _ _).alloc (Nat.le_refl _) _) (madeRowW w1 w1.heap.size s.length (Nat.le_refl _) (by omega))
        simp only [List.cons_append, List.nil_append] at G2
        obtain ⟨G, hG⟩ : ∃ zz, w1.heap.size = zz := ⟨_, rfl⟩
        rw [hG] at G2 ⊢
        obtain ⟨w2, hw2⟩ : ∃ zz, (w1.alloc (.cells (madeCells #[Value.int .i64 0] s.length) 3)) = zz := ⟨_, rfl⟩
        rw [hw2] at G2 ⊢
        clear hw2 hG
        refine hK.out _ _ (fun _ => ⟨G2.c 0 0 rfl rfl, G2.c 0 1 rfl rfl, G2.c 0 2 rfl rfl⟩) trivial (fun hHeld hHeld1 => ?_)
        replace hHeld := hHeld rfl
        clear hK K
        try simp only [Act.put, List.setIfInBounds_toArray, List.set_cons_zero, List.set_cons_succ]
        refine readyJ (rs := [1]) (by kernel_rfl) (by simp) ?_
        refine (AllJ.cons rfl ?op1x8y4z AllJ.nil)
        case op1x8y4z =>
          intro K hK
          go_simp
          go_at_call 51
          refine (clone_any p cp s w2 (G2.lw 2 rfl) (by omega)).mono ?_
          rintro e w3 ⟨v, rfl, hown, hb⟩
          obtain ⟨a1, c1, rfl, _⟩ := own_shape hown
          have G3 := G2.addO hb hown
          simp only [List.cons_append, List.nil_append] at G3
          clear hown hb
          (try go_wp2_with fail)
          refine hK.out _ _ (fun _ => ⟨G3.c 0 0 rfl rfl, G3.c 0 1 rfl rfl, G3.c 0 2 rfl rfl⟩) trivial (fun hHeld hHeld1 => ?_)
          replace hHeld := hHeld rfl
          clear hK K
          try simp only [Act.put, List.setIfInBounds_toArray, List.set_cons_zero, List.set_cons_succ]
          refine takeJ (i := 7) (dst := (some 43)) (v := ?_) rfl rfl (by kernel_rfl) (by kernel_rfl) (by kernel_rfl) (by kernel_rfl) (fun _ _ _ h => h) (by rfl) ?hy7n11 hHeld trivial ?rest7n11
          case hy7n11 => (intro W hSw; (try dsimp only at hSw); obtain ⟨s0, s1, s2⟩ := hSw; go_simp; (try with_reducible rfl))
          try simp only [Act.put, List.setIfInBounds_toArray, List.set_cons_zero, List.set_cons_succ]
          refine readyJ (rs := [9]) (by kernel_rfl) (by simp) ?_
          refine (AllJ.cons rfl ?op9x8y4y1y7z AllJ.nil)
          case op9x8y4y1y7z =>
            intro K hK
            have e0 := G3.c 2 0 rfl rfl
            have e1 := G3.c 2 1 rfl rfl
            have e2 := G3.c 2 2 rfl rfl
            have ef0 := G3.f 2 0 rfl rfl
            have ef1 := G3.f 2 1 rfl rfl
            have ef2 := G3.f 2 2 rfl rfl
            go_simp
            have G5 := G3.set 2 rfl (by simp) [.slice a1 s.length c1, .slice (some ⟨G, 0, none⟩) s.length s.length, .int .i64 off] rfl
            simp only [setL, Nat.reduceAdd, List.set_cons_zero, List.set_cons_succ] at G5
            clear e0 ef0 e1 ef1 e2 ef2
            refine hK.out _ _ (fun _ => ⟨G5.c 0 0 rfl rfl, G5.c 0 1 rfl rfl, G5.c 0 2 rfl rfl⟩) trivial (fun hHeld hHeld1 => ?_)
            replace hHeld := hHeld rfl
            clear hK K
            try simp only [Act.put, List.setIfInBounds_toArray, List.set_cons_zero, List.set_cons_succ]
            refine doneJ (by kernel_rfl) ?_
            rw [hwz] at G5
            clear hHeld hHeld1
            go_wp2
            go_meet
            exact ⟨Q, a1, c1, G, rfl, Lib.hid G5.swapO⟩
  case rest =>
    obtain ⟨Q, a1, c1, G, rfl, F5⟩ := hcut
    clear F2 hwz hmk
    have d0_0 := F5.out.c 0 0 rfl rfl
    have d0_1 := F5.out.c 0 1 rfl rfl
    have d0_2 := F5.out.c 0 2 rfl rfl
    go_wp2_with fail
    clear d0_0 d0_1 d0_2
    go_loopw [47] (fun sk wr => ∃ k : Nat, k ≤ sh.length ∧ sk = .int .i64 k ∧ Hid (Fr w.heap.size w wr [(w.heap.size, [.slice a sh.length c, .slice b st.length d, .int .i64 off]), (w.heap.size + 1, [.slice none 0 0, .slice none 0 0, .int .i64 0]), (Q, [.slice a1 s.length c1, .slice (some ⟨G, 0, none⟩) s.length s.length, .int .i64 off])] [(.i64, a, sh), (.i64, b, st), (.i64, p, s)] [⟨3, .slice a1 s.length c1, s.length, s.map (Value.int .i64)⟩, ⟨3, .slice (some ⟨G, 0, none⟩) s.length s.length, s.length, (widK sh st s k).map (Value.int .i64)⟩] [])) (fun sk _ => sh.length - (intOf sk).toNat)
    case atStart => exact ⟨0, Nat.zero_le _, rfl, F5⟩
    case round =>
      obtain ⟨k, hk, rfl, F6⟩ := hrel
      clear F5
      obtain ⟨w6, rfl⟩ : ∃ w6 : World, w6 = wr := ⟨_, rfl⟩
      have d0_0 := F6.out.c 0 0 rfl rfl
      have d0_1 := F6.out.c 0 1 rfl rfl
      have d0_2 := F6.out.c 0 2 rfl rfl
      by_cases hlt : k < sh.length
      · skip
        obtain ⟨at_, hat⟩ : ∃ at_ : Nat, s.length - sh.length + k = at_ := ⟨_, rfl⟩
        have hat2 : at_ < s.length := by omega
        have hx0 := fun h9 => widK_eq sh st s k hls hlt h9
        have hx1 := fun h9 => widK_ne sh st s k hls hlt h9
        rw [hat] at hx0 hx1
        obtain ⟨ga, oa, haa, _, hca⟩ := (F6.out.l 0 rfl).cell k hlt
        obtain ⟨gp, op_, hpp, _, hcp⟩ := (F6.out.l 2 rfl).cell at_ hat2
        obtain ⟨gb, ob, hbb, hbl, hcb⟩ := (F6.out.l 1 rfl).cell k (by rw [HLT.out]; exact hlt)
        obtain ⟨x, hx⟩ : ∃ x, sh[k]?.getD 0 = x := ⟨_, rfl⟩
        obtain ⟨y, hy⟩ : ∃ x, s[at_]?.getD 0 = x := ⟨_, rfl⟩
        obtain ⟨z, hz⟩ : ∃ x, st[k]?.getD 0 = x := ⟨_, rfl⟩
        rw [hx] at hca hx0 hx1
        rw [hy] at hcp hx0 hx1
        rw [hz] at hcb hx0
        subst haa
        subst hpp
        subst hbb
        clear hx hy hz
        have HX0 := Lib.hid hx0
        have HX1 := Lib.hid hx1
        have HAT := Lib.hid hat
        clear hx0 hx1 hat
        have hki : (k : Int) < (sh.length : Int) := by omega
        have hai : (at_ : Int) < (s.length : Int) := by omega
        have hbi : (k : Int) < (st.length : Int) := by rw [HLT.out]; exact hki
        have hwr : ∀ [Inhabited Unit], (s.length : Int) - (sh.length : Int) + (k : Int) = (at_ : Int) := by intro _; have := HAT.out; omega
        go_upto_region 11 with fail
        by_cases hxy : x = y
        · skip
          have hxd : decide (x = y) = true := decide_eq_true hxy
          go_quiet (fail)
          go_upto_region 12 with fail
          have F7 := Lib.hid (F6.out.drewN nq)
          obtain ⟨w7, hw7⟩ : ∃ z9, w6.drewN nq = z9 := ⟨_, rfl⟩
          rw [hw7] at F7 ⊢
          have hcb7 := hcb
          rw [show w6.cell? ⟨gb, ob + k, none⟩ = w7.cell? ⟨gb, ob + k, none⟩ by rw [← hw7]; rfl] at hcb7
          clear hw7 F6 hca hcp hcb hxd d0_0 d0_1 d0_2
          have hlw := widK_len sh st s k
          have hget : ((widK sh st s k).map (Value.int .i64))[at_]? = some (.int .i64 ((widK sh st s k)[at_]?.getD 0)) := by
            rw [List.getElem?_map, List.getElem?_eq_getElem (by rw [hlw]; exact hat2)]; rfl
          have HGET := Lib.hid hget
          clear hget hlw
          refine wp_region_parts2 (w := w7) 9 1 none [] [(fun u _ => u = .pointer (some ⟨Q, 1, none⟩)), (fun u _ => u = .slice (some ⟨G, 0, none⟩) s.length s.length), (fun u _ => u = .int .i64 (at_ : Int)), (fun u _ => u = .pointer (some ⟨w.heap.size, 1, none⟩)), (fun u _ => u = .slice (some ⟨gb, ob, none⟩) st.length d), (fun u _ => u = .int .i64 (k : Int)), (fun u _ => u = .pointer (some ⟨gb, ob + k, none⟩)), (fun u _ => u = .int .i64 z), (fun u _ => u = .pointer (some ⟨G, at_, none⟩))] [some 68, some 69, some 70, some 71, some 72, some 73, some 74, some 75, some 76, none] #[true, true, true, true, true, true, true, true, true, false] #[true, true, true, true, true, true, true, true, true, false] (by kernel_rfl) rfl (by kernel_rfl) (by kernel_rfl) rfl (by kernel_rfl) (by kernel_rfl) (.cons (carries_eq _) (.cons (carries_eq _) (.cons (carries_eq _) (.cons (carries_eq _) (.cons (carries_eq _) (.cons (carries_eq _) (.cons (carries_eq _) (.cons (carries_eq _) (.cons (carries_eq _) .nil))))))))) (fun vs b hvl hvb => ?_)
          obtain ⟨x0, x1, x2, x3, x4, x5, x6, x7, x8, x9, rfl⟩ : ∃ x0 x1 x2 x3 x4 x5 x6 x7 x8 x9, vs = [x0, x1, x2, x3, x4, x5, x6, x7, x8, x9] := lst10 hvl
          clear hvl
          simp only [putAll, Act.put, List.setIfInBounds_toArray, List.set_cons_zero, List.set_cons_succ] at hvb
          subst hvb
          refine ⟨(.snoc (.snoc (.snoc (.snoc (.snoc (.snoc (.snoc (.snoc (.snoc .zero (PartOb.intro (d := (some 68)) (r := fun u _ => u = .pointer (some ⟨Q, 1, none⟩)) rfl rfl rfl rfl ?po12x0)) (PartOb.intro (d := (some 69)) (r := fun u _ => u = .slice (some ⟨G, 0, none⟩) s.length s.length) rfl rfl rfl rfl ?po12x1)) (PartOb.intro (d := (some 70)) (r := fun u _ => u = .int .i64 (at_ : Int)) rfl rfl rfl rfl ?po12x2)) (PartOb.intro (d := (some 71)) (r := fun u _ => u = .pointer (some ⟨w.heap.size, 1, none⟩)) rfl rfl rfl rfl ?po12x3)) (PartOb.intro (d := (some 72)) (r := fun u _ => u = .slice (some ⟨gb, ob, none⟩) st.length d) rfl rfl rfl rfl ?po12x4)) (PartOb.intro (d := (some 73)) (r := fun u _ => u = .int .i64 (k : Int)) rfl rfl rfl rfl ?po12x5)) (PartOb.intro (d := (some 74)) (r := fun u _ => u = .pointer (some ⟨gb, ob + k, none⟩)) rfl rfl rfl rfl ?po12x6)) (PartOb.intro (d := (some 75)) (r := fun u _ => u = .int .i64 z) rfl rfl rfl rfl ?po12x7)) (PartOb.intro (d := (some 76)) (r := fun u _ => u = .pointer (some ⟨G, at_, none⟩)) rfl rfl rfl rfl ?po12x8)), ?pend12, ?pfl12⟩
          case po12x0 =>
            intro w1 hb1 hd KK hK
            clear hd
            simp only [Act.put, List.setIfInBounds_toArray, List.set_cons_zero, List.set_cons_succ] at hK
            go_simp
            first | exact hK.out _ _ (Below.refl _ _) rfl | (have hk := hK.out _ _ (Below.refl _ _) rfl; revert hk; go_simp)
          case po12x1 =>
            intro w1 hb1 hd KK hK
            have d0 : x0 = .pointer (some ⟨Q, 1, none⟩) := hd 0 (by kernel_rfl)
            clear hd
            subst d0
            have hF := F7.out.next hb1
            have k0 := hF.c 2 0 rfl rfl
            have k1 := hF.c 2 1 rfl rfl
            have k2 := hF.c 2 2 rfl rfl
            simp only [Act.put, List.setIfInBounds_toArray, List.set_cons_zero, List.set_cons_succ] at hK
            go_simp
            first | exact hK.out _ _ (Below.refl _ _) rfl | (have hk := hK.out _ _ (Below.refl _ _) rfl; revert hk; go_simp)
          case po12x2 =>
            intro w1 hb1 hd KK hK
            clear hd
            simp only [Act.put, List.setIfInBounds_toArray, List.set_cons_zero, List.set_cons_succ] at hK
            go_simp
            first | exact hK.out _ _ (Below.refl _ _) rfl | (have hk := hK.out _ _ (Below.refl _ _) rfl; revert hk; go_simp)
          case po12x3 =>
            intro w1 hb1 hd KK hK
            clear hd
            simp only [Act.put, List.setIfInBounds_toArray, List.set_cons_zero, List.set_cons_succ] at hK
            go_simp
            first | exact hK.out _ _ (Below.refl _ _) rfl | (have hk := hK.out _ _ (Below.refl _ _) rfl; revert hk; go_simp)
          case po12x4 =>
            intro w1 hb1 hd KK hK
            have d3 : x3 = .pointer (some ⟨w.heap.size, 1, none⟩) := hd 3 (by kernel_rfl)
            clear hd
            subst d3
            have hF := F7.out.next hb1
            have k0 := hF.c 0 0 rfl rfl
            have k1 := hF.c 0 1 rfl rfl
            have k2 := hF.c 0 2 rfl rfl
            simp only [Act.put, List.setIfInBounds_toArray, List.set_cons_zero, List.set_cons_succ] at hK
            go_simp
            first | exact hK.out _ _ (Below.refl _ _) rfl | (have hk := hK.out _ _ (Below.refl _ _) rfl; revert hk; go_simp)
          case po12x5 =>
            intro w1 hb1 hd KK hK
            clear hd
            simp only [Act.put, List.setIfInBounds_toArray, List.set_cons_zero, List.set_cons_succ] at hK
            go_simp
            first | exact hK.out _ _ (Below.refl _ _) rfl | (have hk := hK.out _ _ (Below.refl _ _) rfl; revert hk; go_simp)
          case po12x6 =>
            intro w1 hb1 hd KK hK
            have d4 : x4 = .slice (some ⟨gb, ob, none⟩) st.length d := hd 4 (by kernel_rfl)
            have d5 : x5 = .int .i64 (k : Int) := hd 5 (by kernel_rfl)
            clear hd
            subst d4
            subst d5
            simp only [Act.put, List.setIfInBounds_toArray, List.set_cons_zero, List.set_cons_succ] at hK
            go_simp
            first | exact hK.out _ _ (Below.refl _ _) rfl | (have hk := hK.out _ _ (Below.refl _ _) rfl; revert hk; go_simp)
          case po12x7 =>
            intro w1 hb1 hd KK hK
            have d6 : x6 = .pointer (some ⟨gb, ob + k, none⟩) := hd 6 (by kernel_rfl)
            clear hd
            subst d6
            have hcx := (hb1.cell (p := ⟨gb, ob + k, none⟩) (Nat.lt_of_lt_of_le hbl F7.out.hlo)).trans hcb7
            simp only [Act.put, List.setIfInBounds_toArray, List.set_cons_zero, List.set_cons_succ] at hK
            go_simp
            first | exact hK.out _ _ (Below.refl _ _) rfl | (have hk := hK.out _ _ (Below.refl _ _) rfl; revert hk; go_simp)
          case po12x8 =>
            intro w1 hb1 hd KK hK
            have d0 : x0 = .pointer (some ⟨Q, 1, none⟩) := hd 0 (by kernel_rfl)
            have d1 : x1 = .slice (some ⟨G, 0, none⟩) s.length s.length := hd 1 (by kernel_rfl)
            have d2 : x2 = .int .i64 (at_ : Int) := hd 2 (by kernel_rfl)
            have d3 : x3 = .pointer (some ⟨w.heap.size, 1, none⟩) := hd 3 (by kernel_rfl)
            have d4 : x4 = .slice (some ⟨gb, ob, none⟩) st.length d := hd 4 (by kernel_rfl)
            have d5 : x5 = .int .i64 (k : Int) := hd 5 (by kernel_rfl)
            have d6 : x6 = .pointer (some ⟨gb, ob + k, none⟩) := hd 6 (by kernel_rfl)
            have d7 : x7 = .int .i64 z := hd 7 (by kernel_rfl)
            clear hd
            subst d0
            subst d1
            subst d2
            subst d3
            subst d4
            subst d5
            subst d6
            subst d7
            simp only [Act.put, List.setIfInBounds_toArray, List.set_cons_zero, List.set_cons_succ] at hK
            go_simp
            first | exact hK.out _ _ (Below.refl _ _) rfl | (have hk := hK.out _ _ (Below.refl _ _) rfl; revert hk; go_simp)
          case pfl12 => (intro f hf; cases hf)
          case pend12 =>
          intro w1 hb1 hR hD
          have d0 : x0 = .pointer (some ⟨Q, 1, none⟩) := hR 0 (by decide)
          have d1 : x1 = .slice (some ⟨G, 0, none⟩) s.length s.length := hR 1 (by decide)
          have d2 : x2 = .int .i64 (at_ : Int) := hR 2 (by decide)
          have d3 : x3 = .pointer (some ⟨w.heap.size, 1, none⟩) := hR 3 (by decide)
          have d4 : x4 = .slice (some ⟨gb, ob, none⟩) st.length d := hR 4 (by decide)
          have d5 : x5 = .int .i64 (k : Int) := hR 5 (by decide)
          have d6 : x6 = .pointer (some ⟨gb, ob + k, none⟩) := hR 6 (by decide)
          have d7 : x7 = .int .i64 z := hR 7 (by decide)
          have d8 : x8 = .pointer (some ⟨G, at_, none⟩) := hR 8 (by decide)
          clear hR hD
          subst d0
          subst d1
          subst d2
          subst d3
          subst d4
          subst d5
          subst d6
          subst d7
          subst d8
          refine wpAny_ready (rs := [9]) (by kernel_rfl) (by simp) (AllReady.cons rfl (fun KK hK => ?_) AllReady.nil)
          have F8 := F7.out.next hb1
          obtain ⟨r1, r2⟩ := F8.rc 1 at_ rfl HGET.out
          go_simp
          refine hK _ _ ?_
          clear hK KK
          try simp only [putAll, Act.put, List.setIfInBounds_toArray, List.set_cons_zero, List.set_cons_succ]
          refine wpAny_done (by kernel_rfl) ?_ _
          have F9 := Lib.hid (F8.put 1 at_ rfl (.int .i64 z))
          simp only [List.set_cons_zero, List.set_cons_succ] at F9
          rw [← List.map_set, HX0.out hxy] at F9
          clear F8 r1 r2 F7
          go_wp2
          go_roundw
          case rel => exact ⟨k + 1, by omega, by go_num, F9⟩
          case measure => simp [intOf]; omega
        · skip
          have hxd : decide (x = y) = false := decide_eq_false hxy
          have F9 := Lib.hid (F6.out.drewN 0)
          have HX2 := HX1.out hxy
          go_quiet (fail)
          have F7 := Lib.hid (F6.out.drewN nq)
          rw [← HX2] at F7
          go_wp2
          go_roundw
          case rel => exact ⟨k + 1, by omega, by go_num, F7⟩
          case measure => simp [intOf]; omega
      · obtain rfl : k = sh.length := by omega
        have u2_0 := F6.out.c 2 0 rfl rfl
        have u2_1 := F6.out.c 2 1 rfl rfl
        have u2_2 := F6.out.c 2 2 rfl rfl
        have u1_0 := F6.out.c 1 0 rfl rfl
        have u1_1 := F6.out.c 1 1 rfl rfl
        have u1_2 := F6.out.c 1 2 rfl rfl
        have uf1_0 := F6.out.f 1 0 rfl rfl
        have uf1_1 := F6.out.f 1 1 rfl rfl
        have uf1_2 := F6.out.f 1 2 rfl rfl
        go_wp2
        have FZ := F6.out.set 1 rfl (by simp) [.slice a1 s.length c1, .slice (some ⟨G, 0, none⟩) s.length s.length, .int .i64 off] rfl
        simp only [setL, Nat.reduceAdd, List.set_cons_zero, List.set_cons_succ] at FZ
        have y0 := FZ.c 1 0 rfl rfl
        have y1 := FZ.c 1 1 rfl rfl
        have y2 := FZ.c 1 2 rfl rfl
        refine bodyPost_ret (v := .tuple #[.agg #[.slice a1 s.length c1, .slice (some ⟨G, 0, none⟩) s.length s.length, .int .i64 off], .int .i64 0]) ?_ rfl ⟨a1, c1, some ⟨G, 0, none⟩, s.length, by rw [widL_len], by rw [widL_len]; exact FZ.rows⟩
        rw [results_ctW rfl]
        go_simp
end Go.Proofs.Ytnafbgkfhojamaa
