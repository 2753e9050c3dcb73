/- Walks: slices of views. -/
import Derived.Test.YtnafbgkfhojamaaViewF
set_option linter.unusedVariables false
set_option linter.unusedSimpArgs false
namespace Go.Proofs.Ytnafbgkfhojamaa
open Go.RowKit Go.Rt

set_option maxRecDepth 100000 in
set_option maxHeartbeats 4000000 in
theorem rslice_any (a b : Option Addr) (c d : Nat) (sh st : List Int) (off : Int) (m f t : Nat) (w : World) (h : Ints .i64 w w.heap.size a sh) (h2 : Ints .i64 w w.heap.size b st) (hv : viewB sh st off 65536 = true) (hm : m < sh.length) (hft : f < t) (ht : (t : Int) ≤ sh[m]?.getD 0) :
    Calls Try.prog 37 #[.agg #[.slice a sh.length c, .slice b st.length d, .int .i64 off], .int .i64 (m : Int), .int .i64 (f : Int), .int .i64 (t : Int)] w (RetVO w (sh.set m ((t : Int) - (f : Int))) st (off + (f : Int) * (st[m]?.getD 0))) := by
  have HA := Lib.hid h
  have HB := Lib.hid h2
  have hv0 := viewB_iff.1 hv
  have h4 := (goodB_iff.1 hv0.1).1
  have hoff := hv0.2.2.1
  have hoff2 := hv0.2.2.2.2.1
  have hl2 := hv0.2.1
  have HL2 := Lib.hid hl2
  have hmT : m < st.length := by omega
  have hgv := fun W (h : Ints .i64 W W.heap.size a sh) (h2 : Ints .i64 W W.heap.size b st) => vgood_any a b c d W.heap.size sh st off 65536 W h h2 (Nat.le_refl _)
  rw [hv] at hgv
  obtain ⟨_, _, hcA⟩ := h
  obtain ⟨_, _, hcB⟩ := h2
  obtain ⟨ga, oa, rfl, hla, hca⟩ := hcA m hm
  obtain ⟨gb, ob, rfl, hlb, hcb⟩ := hcB m hmT
  have hd := (goodB_dims hv0.1).at hm
  have hs := hv0.2.2.2.2.2.1 _ (List.getElem_mem hmT)
  rw [List.getElem?_eq_getElem hm] at hca ht
  rw [List.getElem?_eq_getElem hmT] at hcb
  have hge : st[m]?.getD 0 = st[m] := by rw [List.getElem?_eq_getElem hmT]; rfl
  rw [hge]
  simp only [Option.getD_some] at hca hcb ht
  obtain ⟨x, hxe⟩ : ∃ x, sh[m] = x := ⟨_, rfl⟩
  obtain ⟨y, hye⟩ : ∃ y, st[m] = y := ⟨_, rfl⟩
  rw [hxe] at hca ht hd
  rw [hye] at hcb hs ⊢
  have HCA := Lib.hid hca
  have HCB := Lib.hid hcb
  have hp1 : 0 ≤ (f : Int) * y := Int.mul_nonneg (by omega) hs.1
  have hp2 : (f : Int) * y ≤ 4096 * 65536 := Int.mul_le_mul (by omega) hs.2 hs.1 (by omega)
  have hwr1 : IntKind.i64.wrap ((f : Int) * y) = (f : Int) * y := IntWalk.i64_in _ (by omega)
  have hwr2 : IntKind.i64.wrap (off + (f : Int) * y) = off + (f : Int) * y := IntWalk.i64_in _ (by omega)
  have hwr3 : IntKind.i64.wrap ((t : Int) - (f : Int)) = (t : Int) - (f : Int) := IntWalk.i64_in _ (by omega)
  have htx : ¬ x < (t : Int) := by omega
  have htf : ¬ (t : Int) ≤ (f : Int) := by omega
  have hml : ¬ (sh.length : Int) ≤ (m : Int) := by omega
  clear hcA hcB hca hcb hxe hye hd hs hp1 hp2 hv hv0 hge ht hl2
  go_enter Try.func37, Try.ntmps37
  have F1 := Lib.hid (((Fr.start (w := w) (I := [(.i64, (some ⟨ga, oa, none⟩), sh), (.i64, (some ⟨gb, ob, none⟩), st)]) (by intro z hz; simp at hz; rcases hz with rfl | rfl; exact HA.out; exact HB.out)).box1 (b := w.heap.size) rfl [.slice (some ⟨ga, oa, none⟩) sh.length c, .slice (some ⟨gb, ob, none⟩) st.length d, .int .i64 off] 25).box1 (b := w.heap.size + 1) (by simp) [.slice none 0 0, .slice none 0 0, .int .i64 0] 25)
  simp only [List.nil_append, List.cons_append] at F1
  go_upto_region 1 with fail
  obtain ⟨W1, hW1⟩ : ∃ W1, ((w.alloc (.cells #[.slice (some ⟨ga, oa, none⟩) sh.length c, .slice (some ⟨gb, ob, none⟩) st.length d, .int .i64 off] 25)).alloc (.cells #[.slice none 0 0, .slice none 0 0, .int .i64 0] 25)) = W1 := ⟨_, rfl⟩
  rw [hW1] at F1 ⊢
  clear hW1
  have F2 := F1
  obtain ⟨wk, rfl⟩ : ∃ z : World, z = W1 := ⟨_, rfl⟩
  clear hgv
  have FD := F2.out.drew
  refine wp_region_J (S := fun W => W.cell? ⟨w.heap.size, 0, none⟩ = some (.slice (some ⟨ga, oa, none⟩) sh.length c) ∧ W.cell? ⟨w.heap.size, 1, none⟩ = some (.slice (some ⟨gb, ob, none⟩) st.length d) ∧ W.cell? ⟨w.heap.size, 2, none⟩ = some (.int .i64 off) ∧ W.cell? ⟨gb, ob + m, none⟩ = some (.int .i64 y)) (S1 := fun _ => True) (L := []) (by kernel_rfl) ⟨FD.c 0 0 rfl rfl, FD.c 0 1 rfl rfl, FD.c 0 2 rfl rfl, (FD.bel.cell (p := ⟨gb, ob + m, none⟩) hlb).trans HCB.out⟩ trivial (fun hHeld hHeld1 => ?_)
  obtain ⟨w0, hw0⟩ : ∃ zz, wk.drew = zz := ⟨_, rfl⟩
  rw [hw0] at FD hHeld ⊢
  clear hw0
  refine takeJ (i := 0) (dst := (some 10)) (v := ?_) rfl rfl (by kernel_rfl) (by kernel_rfl) (by kernel_rfl) (by kernel_rfl) (fun _ _ _ h => h) (by rfl) ?hy0n1 hHeld trivial ?rest0n1
  case hy0n1 => (intro W hSw; (try dsimp only at hSw); obtain ⟨s0, s1, s2, s3⟩ := hSw; go_simp; (try with_reducible rfl))
  try simp only [Act.put, List.setIfInBounds_toArray, List.set_cons_zero, List.set_cons_succ]
  refine takeJ (i := 1) (dst := (some 11)) (v := ?_) rfl rfl (by kernel_rfl) (by kernel_rfl) (by kernel_rfl) (by kernel_rfl) (fun _ _ _ h => h) (by rfl) ?hy1n2 hHeld trivial ?rest1n2
  case hy1n2 => (intro W hSw; (try dsimp only at hSw); obtain ⟨s0, s1, s2, s3⟩ := hSw; go_simp; (try with_reducible rfl))
  try simp only [Act.put, List.setIfInBounds_toArray, List.set_cons_zero, List.set_cons_succ]
  refine takeJ (i := 3) (dst := (some 13)) (v := ?_) rfl rfl (by kernel_rfl) (by kernel_rfl) (by kernel_rfl) (by kernel_rfl) (fun _ _ _ h => h) (by rfl) ?hy3n3 hHeld trivial ?rest3n3
  case hy3n3 => (intro W hSw; (try dsimp only at hSw); obtain ⟨s0, s1, s2, s3⟩ := hSw; go_simp; (try with_reducible rfl))
  try simp only [Act.put, List.setIfInBounds_toArray, List.set_cons_zero, List.set_cons_succ]
  refine takeJ (i := 4) (dst := (some 14)) (v := ?_) rfl rfl (by kernel_rfl) (by kernel_rfl) (by kernel_rfl) (by kernel_rfl) (fun _ _ _ h => h) (by rfl) ?hy4n4 hHeld trivial ?rest4n4
  case hy4n4 => (intro W hSw; (try dsimp only at hSw); obtain ⟨s0, s1, s2, s3⟩ := hSw; go_simp; (try with_reducible rfl))
  try simp only [Act.put, List.setIfInBounds_toArray, List.set_cons_zero, List.set_cons_succ]
  refine takeJ (i := 6) (dst := (some 16)) (v := ?_) rfl rfl (by kernel_rfl) (by kernel_rfl) (by kernel_rfl) (by kernel_rfl) (fun _ _ _ h => h) (by rfl) ?hy6n5 hHeld trivial ?rest6n5
  case hy6n5 => (intro W hSw; (try dsimp only at hSw); obtain ⟨s0, s1, s2, s3⟩ := hSw; go_simp; (try with_reducible rfl))
  try simp only [Act.put, List.setIfInBounds_toArray, List.set_cons_zero, List.set_cons_succ]
  refine takeJ (i := 7) (dst := (some 17)) (v := ?_) rfl rfl (by kernel_rfl) (by kernel_rfl) (by kernel_rfl) (by kernel_rfl) (fun _ _ _ h => h) (by rfl) ?hy7n6 hHeld trivial ?rest7n6
  case hy7n6 => (intro W hSw; (try dsimp only at hSw); obtain ⟨s0, s1, s2, s3⟩ := hSw; go_simp; (try with_reducible rfl))
  try simp only [Act.put, List.setIfInBounds_toArray, List.set_cons_zero, List.set_cons_succ]
  refine takeJ (i := 8) (dst := (some 18)) (v := ?_) rfl rfl (by kernel_rfl) (by kernel_rfl) (by kernel_rfl) (by kernel_rfl) (fun _ _ _ h => h) (by rfl) ?hy8n7 hHeld trivial ?rest8n7
  case hy8n7 => (intro W hSw; (try dsimp only at hSw); obtain ⟨s0, s1, s2, s3⟩ := hSw; go_simp; (try with_reducible rfl))
  try simp only [Act.put, List.setIfInBounds_toArray, List.set_cons_zero, List.set_cons_succ]
  refine takeJ (i := 9) (dst := (some 19)) (v := ?_) rfl rfl (by kernel_rfl) (by kernel_rfl) (by kernel_rfl) (by kernel_rfl) (fun _ _ _ h => h) (by rfl) ?hy9n8 hHeld trivial ?rest9n8
  case hy9n8 => (intro W hSw; (try dsimp only at hSw); obtain ⟨s0, s1, s2, s3⟩ := hSw; go_simp; (try with_reducible rfl))
  try simp only [Act.put, List.setIfInBounds_toArray, List.set_cons_zero, List.set_cons_succ]
  refine takeJ (i := 10) (dst := (some 20)) (v := ?_) rfl rfl (by kernel_rfl) (by kernel_rfl) (by kernel_rfl) (by kernel_rfl) (fun _ _ _ h => h) (by rfl) ?hy10n9 hHeld trivial ?rest10n9
  case hy10n9 => (intro W hSw; (try dsimp only at hSw); obtain ⟨s0, s1, s2, s3⟩ := hSw; go_simp; (try with_reducible rfl))
  try simp only [Act.put, List.setIfInBounds_toArray, List.set_cons_zero, List.set_cons_succ]
  refine takeJ (i := 11) (dst := (some 21)) (v := ?_) rfl rfl (by kernel_rfl) (by kernel_rfl) (by kernel_rfl) (by kernel_rfl) (fun _ _ _ h => h) (by rfl) ?hy11n10 hHeld trivial ?rest11n10
  case hy11n10 => (intro W hSw; (try dsimp only at hSw); obtain ⟨s0, s1, s2, s3⟩ := hSw; go_simp; (try with_reducible rfl))
  try simp only [Act.put, List.setIfInBounds_toArray, List.set_cons_zero, List.set_cons_succ]
  refine takeJ (i := 12) (dst := (some 22)) (v := ?_) rfl rfl (by kernel_rfl) (by kernel_rfl) (by kernel_rfl) (by kernel_rfl) (fun _ _ _ h => h) (by rfl) ?hy12n11 hHeld trivial ?rest12n11
  case hy12n11 => (intro W hSw; (try dsimp only at hSw); obtain ⟨s0, s1, s2, s3⟩ := hSw; go_simp; (try with_reducible rfl))
  try simp only [Act.put, List.setIfInBounds_toArray, List.set_cons_zero, List.set_cons_succ]
  refine takeJ (i := 13) (dst := (some 23)) (v := ?_) rfl rfl (by kernel_rfl) (by kernel_rfl) (by kernel_rfl) (by kernel_rfl) (fun _ _ _ h => h) (by rfl) ?hy13n12 hHeld trivial ?rest13n12
  case hy13n12 => (intro W hSw; (try dsimp only at hSw); obtain ⟨s0, s1, s2, s3⟩ := hSw; go_simp; (try with_reducible rfl))
  try simp only [Act.put, List.setIfInBounds_toArray, List.set_cons_zero, List.set_cons_succ]
  refine takeJ (i := 14) (dst := (some 24)) (v := ?_) rfl rfl (by kernel_rfl) (by kernel_rfl) (by kernel_rfl) (by kernel_rfl) (fun _ _ _ h => h) (by rfl) ?hy14n13 hHeld trivial ?rest14n13
  case hy14n13 => (intro W hSw; (try dsimp only at hSw); obtain ⟨s0, s1, s2, s3⟩ := hSw; go_simp; (try with_reducible rfl))
  try simp only [Act.put, List.setIfInBounds_toArray, List.set_cons_zero, List.set_cons_succ]
  refine takeJ (i := 15) (dst := (some 25)) (v := ?_) rfl rfl (by kernel_rfl) (by kernel_rfl) (by kernel_rfl) (by kernel_rfl) (fun _ _ _ h => h) (by rfl) ?hy15n14 hHeld trivial ?rest15n14
  case hy15n14 => (intro W hSw; (try dsimp only at hSw); obtain ⟨s0, s1, s2, s3⟩ := hSw; go_simp; (try with_reducible rfl))
  try simp only [Act.put, List.setIfInBounds_toArray, List.set_cons_zero, List.set_cons_succ]
  refine readyJ (rs := [2, 17]) (by kernel_rfl) (by simp) ?_
  refine (AllJ.cons rfl ?op2xz (AllJ.cons rfl ?op17xz AllJ.nil))
  case op2xz =>
    intro K hK
    go_simp
    go_at_call 46
    refine (copyNumbers_any (some ⟨ga, oa, none⟩) c sh w0 (FD.lw 0 rfl) (by have := HL2.out; omega)).mono ?_
    rintro e w1 ⟨v, rfl, hown, hb⟩
    obtain ⟨a2, c2, rfl, _⟩ := own_shape hown
    have G1 := FD.addO hb hown
    simp only [List.cons_append, List.nil_append] at G1
    clear hown hb
    (try go_wp2_with fail)
    refine hK.out _ _ (fun _ => ⟨G1.c 0 0 rfl rfl, G1.c 0 1 rfl rfl, G1.c 0 2 rfl rfl, (G1.bel.cell (p := ⟨gb, ob + m, none⟩) hlb).trans HCB.out⟩) trivial (fun hHeld hHeld1 => ?_)
    replace hHeld := hHeld rfl
    clear hK K
    try simp only [Act.put, List.setIfInBounds_toArray, List.set_cons_zero, List.set_cons_succ]
    refine readyJ (rs := [5, 17]) (by kernel_rfl) (by simp) ?_
    refine (AllJ.cons rfl ?op5x2z (AllJ.cons rfl ?op17x2z AllJ.nil))
    case op5x2z =>
      intro K hK
      go_simp
      go_at_call 46
      refine (copyNumbers_any (some ⟨gb, ob, none⟩) d st w1 (G1.lw 1 rfl) (by have := HL2.out; omega)).mono ?_
      rintro e w2 ⟨v, rfl, hown, hb⟩
      obtain ⟨a5, c5, rfl, _⟩ := own_shape hown
      have G2 := G1.addO hb hown
      simp only [List.cons_append, List.nil_append] at G2
      clear hown hb
      (try go_wp2_with fail)
      refine hK.out _ _ (fun _ => ⟨G2.c 0 0 rfl rfl, G2.c 0 1 rfl rfl, G2.c 0 2 rfl rfl, (G2.bel.cell (p := ⟨gb, ob + m, none⟩) hlb).trans HCB.out⟩) trivial (fun hHeld hHeld1 => ?_)
      replace hHeld := hHeld rfl
      clear hK K
      try simp only [Act.put, List.setIfInBounds_toArray, List.set_cons_zero, List.set_cons_succ]
      refine takeJ (i := 16) (dst := (some 26)) (v := ?_) rfl rfl (by kernel_rfl) (by kernel_rfl) (by kernel_rfl) (by kernel_rfl) (fun _ _ _ h => h) (by rfl) ?hy16n15 hHeld trivial ?rest16n15
      case hy16n15 => (intro W hSw; (try dsimp only at hSw); obtain ⟨s0, s1, s2, s3⟩ := hSw; go_simp; (try with_reducible rfl))
      try simp only [Act.put, List.setIfInBounds_toArray, List.set_cons_zero, List.set_cons_succ]
      refine readyJ (rs := [17]) (by kernel_rfl) (by simp) ?_
      refine (AllJ.cons rfl ?op17x2y5y16z AllJ.nil)
      case op17x2y5y16z =>
        intro K hK
        go_simp
        obtain ⟨Q, hQ⟩ : ∃ zz, w2.heap.size = zz := ⟨_, rfl⟩
        rw [hQ]
        have G4 := G2.box1 hQ [.slice none 0 0, .slice none 0 0, .int .i64 0] 25
        simp only [List.cons_append, List.nil_append] at G4
        obtain ⟨w4, hw4⟩ : ∃ zz, (w2.alloc (.cells #[.slice none 0 0, .slice none 0 0, .int .i64 0] 25)) = zz := ⟨_, rfl⟩
        rw [hw4] at G4 ⊢
        clear hw4 hQ
        refine hK.out _ _ (fun _ => ⟨G4.c 0 0 rfl rfl, G4.c 0 1 rfl rfl, G4.c 0 2 rfl rfl, (G4.bel.cell (p := ⟨gb, ob + m, none⟩) hlb).trans HCB.out⟩) trivial (fun hHeld hHeld1 => ?_)
        replace hHeld := hHeld rfl
        clear hK K
        try simp only [Act.put, List.setIfInBounds_toArray, List.set_cons_zero, List.set_cons_succ]
        refine readyJ (rs := [18]) (by kernel_rfl) (by simp) ?_
        refine (AllJ.cons rfl ?op18x2y5y16y17z AllJ.nil)
        case op18x2y5y16y17z =>
          intro K hK
          have e0 := G4.c 2 0 rfl rfl
          have e1 := G4.c 2 1 rfl rfl
          have e2 := G4.c 2 2 rfl rfl
          have ef0 := G4.f 2 0 rfl rfl
          have ef1 := G4.f 2 1 rfl rfl
          have ef2 := G4.f 2 2 rfl rfl
          go_simp
          have G5 := G4.set 2 rfl (by simp) [.slice a2 sh.length c2, .slice a5 st.length c5, .int .i64 (off + (f : Int) * y)] rfl
          simp only [setL, Nat.reduceAdd, List.set_cons_zero, List.set_cons_succ] at G5
          clear e0 ef0 e1 ef1 e2 ef2
          refine hK.out _ _ (fun _ => ⟨G5.c 0 0 rfl rfl, G5.c 0 1 rfl rfl, G5.c 0 2 rfl rfl, (G5.bel.cell (p := ⟨gb, ob + m, none⟩) hlb).trans HCB.out⟩) trivial (fun hHeld hHeld1 => ?_)
          replace hHeld := hHeld rfl
          clear hK K
          try simp only [Act.put, List.setIfInBounds_toArray, List.set_cons_zero, List.set_cons_succ]
          refine doneJ (by kernel_rfl) ?_
          have F9 := Lib.hid G5
          obtain ⟨V9, hV9⟩ : ∃ zz, (((w4.setCell ⟨Q, 0, none⟩ (.slice a2 sh.length c2)).setCell ⟨Q, 1, none⟩ (.slice a5 st.length c5)).setCell ⟨Q, 2, none⟩ (.int .i64 (off + (f : Int) * y))) = zz := ⟨_, rfl⟩
          rw [hV9] at F9 ⊢
          clear hV9 hHeld hHeld1 F2
          have u1_0 := F9.out.c 1 0 rfl rfl
          have u1_1 := F9.out.c 1 1 rfl rfl
          have u1_2 := F9.out.c 1 2 rfl rfl
          have u2_0 := F9.out.c 2 0 rfl rfl
          have u2_1 := F9.out.c 2 1 rfl rfl
          have u2_2 := F9.out.c 2 2 rfl rfl
          have uf1_0 := F9.out.f 1 0 rfl rfl
          have uf1_1 := F9.out.f 1 1 rfl rfl
          have uf1_2 := F9.out.f 1 2 rfl rfl
          obtain ⟨a0, c0, he, hsh⟩ := own_shape (F9.out.r 0 rfl)
          simp only [Value.slice.injEq] at he
          obtain ⟨rfl, _, rfl⟩ := he
          obtain ⟨g, rfl, _⟩ := hsh.resolve_left (by show ¬ sh.length = 0; omega)
          have hget : (sh.map (Value.int .i64))[m]? = some (.int .i64 sh[m]) := by rw [List.getElem?_map, List.getElem?_eq_getElem hm]; rfl
          obtain ⟨r1, r2⟩ := F9.out.rc 0 m rfl hget
          go_upto_region 3 with fail
          have FP := F9.out.put 0 m rfl (.int .i64 ((t : Int) - (f : Int)))
          simp only [List.set_cons_zero, List.set_cons_succ] at FP
          rw [map_set] at FP
          obtain ⟨V10, hV10⟩ : ∃ zz, V9.setCell ⟨g, m, none⟩ (.int .i64 ((t : Int) - (f : Int))) = zz := ⟨_, rfl⟩
          rw [hV10] at FP ⊢
          clear hV10 r1 r2 hget F9 u1_0 u1_1 u1_2 u2_0 u2_1 u2_2 uf1_0 uf1_1 uf1_2
          have FP9 := Lib.hid FP
          clear FP
          have u1_0 := FP9.out.c 1 0 rfl rfl
          have u1_1 := FP9.out.c 1 1 rfl rfl
          have u1_2 := FP9.out.c 1 2 rfl rfl
          have u2_0 := FP9.out.c 2 0 rfl rfl
          have u2_1 := FP9.out.c 2 1 rfl rfl
          have u2_2 := FP9.out.c 2 2 rfl rfl
          have uf1_0 := FP9.out.f 1 0 rfl rfl
          have uf1_1 := FP9.out.f 1 1 rfl rfl
          have uf1_2 := FP9.out.f 1 2 rfl rfl
          go_wp2
          have FZ := FP9.out.set 1 rfl (by simp) [.slice (some ⟨g, 0, none⟩) sh.length c2, .slice a5 st.length c5, .int .i64 (off + (f : Int) * y)] rfl
          simp only [setL, Nat.reduceAdd, List.set_cons_zero, List.set_cons_succ] at FZ
          have y0 := FZ.c 1 0 rfl rfl
          have y1 := FZ.c 1 1 rfl rfl
          have y2 := FZ.c 1 2 rfl rfl
          refine bodyPost_ret (v := .agg #[.slice (some ⟨g, 0, none⟩) sh.length c2, .slice a5 st.length c5, .int .i64 (off + (f : Int) * y)]) ?_ rfl ⟨some ⟨g, 0, none⟩, c2, a5, c5, by rw [List.length_set], by rw [List.length_set]; exact FZ.rows⟩
          rw [results_cV rfl]
          go_simp
    case op17x2z =>
      intro K hK
      go_simp
      obtain ⟨Q, hQ⟩ : ∃ zz, w1.heap.size = zz := ⟨_, rfl⟩
      rw [hQ]
      have G2 := G1.box1 hQ [.slice none 0 0, .slice none 0 0, .int .i64 0] 25
      simp only [List.cons_append, List.nil_append] at G2
      obtain ⟨w2, hw2⟩ : ∃ zz, (w1.alloc (.cells #[.slice none 0 0, .slice none 0 0, .int .i64 0] 25)) = zz := ⟨_, rfl⟩
      rw [hw2] at G2 ⊢
      clear hw2 hQ
      refine hK.out _ _ (fun _ => ⟨G2.c 0 0 rfl rfl, G2.c 0 1 rfl rfl, G2.c 0 2 rfl rfl, (G2.bel.cell (p := ⟨gb, ob + m, none⟩) hlb).trans HCB.out⟩) trivial (fun hHeld hHeld1 => ?_)
      replace hHeld := hHeld rfl
      clear hK K
      try simp only [Act.put, List.setIfInBounds_toArray, List.set_cons_zero, List.set_cons_succ]
      refine readyJ (rs := [5]) (by kernel_rfl) (by simp) ?_
      refine (AllJ.cons rfl ?op5x2y17z AllJ.nil)
      case op5x2y17z =>
        intro K hK
        go_simp
        go_at_call 46
        refine (copyNumbers_any (some ⟨gb, ob, none⟩) d st w2 (G2.lw 1 rfl) (by have := HL2.out; omega)).mono ?_
        rintro e w3 ⟨v, rfl, hown, hb⟩
        obtain ⟨a5, c5, rfl, _⟩ := own_shape hown
        have G3 := G2.addO hb hown
        simp only [List.cons_append, List.nil_append] at G3
        clear hown hb
        (try go_wp2_with fail)
        refine hK.out _ _ (fun _ => ⟨G3.c 0 0 rfl rfl, G3.c 0 1 rfl rfl, G3.c 0 2 rfl rfl, (G3.bel.cell (p := ⟨gb, ob + m, none⟩) hlb).trans HCB.out⟩) trivial (fun hHeld hHeld1 => ?_)
        replace hHeld := hHeld rfl
        clear hK K
        try simp only [Act.put, List.setIfInBounds_toArray, List.set_cons_zero, List.set_cons_succ]
        refine takeJ (i := 16) (dst := (some 26)) (v := ?_) rfl rfl (by kernel_rfl) (by kernel_rfl) (by kernel_rfl) (by kernel_rfl) (fun _ _ _ h => h) (by rfl) ?hy16n16 hHeld trivial ?rest16n16
        case hy16n16 => (intro W hSw; (try dsimp only at hSw); obtain ⟨s0, s1, s2, s3⟩ := hSw; go_simp; (try with_reducible rfl))
        try simp only [Act.put, List.setIfInBounds_toArray, List.set_cons_zero, List.set_cons_succ]
        refine readyJ (rs := [18]) (by kernel_rfl) (by simp) ?_
        refine (AllJ.cons rfl ?op18x2y17y5y16z AllJ.nil)
        case op18x2y17y5y16z =>
          intro K hK
          have e0 := G3.c 2 0 rfl rfl
          have e1 := G3.c 2 1 rfl rfl
          have e2 := G3.c 2 2 rfl rfl
          have ef0 := G3.f 2 0 rfl rfl
          have ef1 := G3.f 2 1 rfl rfl
          have ef2 := G3.f 2 2 rfl rfl
          go_simp
          have G5 := G3.set 2 rfl (by simp) [.slice a2 sh.length c2, .slice a5 st.length c5, .int .i64 (off + (f : Int) * y)] rfl
          simp only [setL, Nat.reduceAdd, List.set_cons_zero, List.set_cons_succ] at G5
          clear e0 ef0 e1 ef1 e2 ef2
          refine hK.out _ _ (fun _ => ⟨G5.c 0 0 rfl rfl, G5.c 0 1 rfl rfl, G5.c 0 2 rfl rfl, (G5.bel.cell (p := ⟨gb, ob + m, none⟩) hlb).trans HCB.out⟩) trivial (fun hHeld hHeld1 => ?_)
          replace hHeld := hHeld rfl
          clear hK K
          try simp only [Act.put, List.setIfInBounds_toArray, List.set_cons_zero, List.set_cons_succ]
          refine doneJ (by kernel_rfl) ?_
          have F9 := Lib.hid G5
          obtain ⟨V9, hV9⟩ : ∃ zz, (((w3.setCell ⟨Q, 0, none⟩ (.slice a2 sh.length c2)).setCell ⟨Q, 1, none⟩ (.slice a5 st.length c5)).setCell ⟨Q, 2, none⟩ (.int .i64 (off + (f : Int) * y))) = zz := ⟨_, rfl⟩
          rw [hV9] at F9 ⊢
          clear hV9 hHeld hHeld1 F2
          have u1_0 := F9.out.c 1 0 rfl rfl
          have u1_1 := F9.out.c 1 1 rfl rfl
          have u1_2 := F9.out.c 1 2 rfl rfl
          have u2_0 := F9.out.c 2 0 rfl rfl
          have u2_1 := F9.out.c 2 1 rfl rfl
          have u2_2 := F9.out.c 2 2 rfl rfl
          have uf1_0 := F9.out.f 1 0 rfl rfl
          have uf1_1 := F9.out.f 1 1 rfl rfl
          have uf1_2 := F9.out.f 1 2 rfl rfl
          obtain ⟨a0, c0, he, hsh⟩ := own_shape (F9.out.r 0 rfl)
          simp only [Value.slice.injEq] at he
          obtain ⟨rfl, _, rfl⟩ := he
          obtain ⟨g, rfl, _⟩ := hsh.resolve_left (by show ¬ sh.length = 0; omega)
          have hget : (sh.map (Value.int .i64))[m]? = some (.int .i64 sh[m]) := by rw [List.getElem?_map, List.getElem?_eq_getElem hm]; rfl
          obtain ⟨r1, r2⟩ := F9.out.rc 0 m rfl hget
          go_upto_region 3 with fail
          have FP := F9.out.put 0 m rfl (.int .i64 ((t : Int) - (f : Int)))
          simp only [List.set_cons_zero, List.set_cons_succ] at FP
          rw [map_set] at FP
          obtain ⟨V10, hV10⟩ : ∃ zz, V9.setCell ⟨g, m, none⟩ (.int .i64 ((t : Int) - (f : Int))) = zz := ⟨_, rfl⟩
          rw [hV10] at FP ⊢
          clear hV10 r1 r2 hget F9 u1_0 u1_1 u1_2 u2_0 u2_1 u2_2 uf1_0 uf1_1 uf1_2
          have FP9 := Lib.hid FP
          clear FP
          have u1_0 := FP9.out.c 1 0 rfl rfl
          have u1_1 := FP9.out.c 1 1 rfl rfl
          have u1_2 := FP9.out.c 1 2 rfl rfl
          have u2_0 := FP9.out.c 2 0 rfl rfl
          have u2_1 := FP9.out.c 2 1 rfl rfl
          have u2_2 := FP9.out.c 2 2 rfl rfl
          have uf1_0 := FP9.out.f 1 0 rfl rfl
          have uf1_1 := FP9.out.f 1 1 rfl rfl
          have uf1_2 := FP9.out.f 1 2 rfl rfl
          go_wp2
          have FZ := FP9.out.set 1 rfl (by simp) [.slice (some ⟨g, 0, none⟩) sh.length c2, .slice a5 st.length c5, .int .i64 (off + (f : Int) * y)] rfl
          simp only [setL, Nat.reduceAdd, List.set_cons_zero, List.set_cons_succ] at FZ
          have y0 := FZ.c 1 0 rfl rfl
          have y1 := FZ.c 1 1 rfl rfl
          have y2 := FZ.c 1 2 rfl rfl
          refine bodyPost_ret (v := .agg #[.slice (some ⟨g, 0, none⟩) sh.length c2, .slice a5 st.length c5, .int .i64 (off + (f : Int) * y)]) ?_ rfl ⟨some ⟨g, 0, none⟩, c2, a5, c5, by rw [List.length_set], by rw [List.length_set]; exact FZ.rows⟩
          rw [results_cV rfl]
          go_simp
  case op17xz =>
    intro K hK
    go_simp
    obtain ⟨Q, hQ⟩ : ∃ zz, w0.heap.size = zz := ⟨_, rfl⟩
    rw [hQ]
    have G1 := FD.box1 hQ [.slice none 0 0, .slice none 0 0, .int .i64 0] 25
    simp only [List.cons_append, List.nil_append] at G1
    obtain ⟨w1, hw1⟩ : ∃ zz, (w0.alloc (.cells #[.slice none 0 0, .slice none 0 0, .int .i64 0] 25)) = zz := ⟨_, rfl⟩
    rw [hw1] at G1 ⊢
    clear hw1 hQ
    refine hK.out _ _ (fun _ => ⟨G1.c 0 0 rfl rfl, G1.c 0 1 rfl rfl, G1.c 0 2 rfl rfl, (G1.bel.cell (p := ⟨gb, ob + m, none⟩) hlb).trans HCB.out⟩) trivial (fun hHeld hHeld1 => ?_)
    replace hHeld := hHeld rfl
    clear hK K
    try simp only [Act.put, List.setIfInBounds_toArray, List.set_cons_zero, List.set_cons_succ]
    refine readyJ (rs := [2]) (by kernel_rfl) (by simp) ?_
    refine (AllJ.cons rfl ?op2x17z AllJ.nil)
    case op2x17z =>
      intro K hK
      go_simp
      go_at_call 46
      refine (copyNumbers_any (some ⟨ga, oa, none⟩) c sh w1 (G1.lw 0 rfl) (by have := HL2.out; omega)).mono ?_
      rintro e w2 ⟨v, rfl, hown, hb⟩
      obtain ⟨a2, c2, rfl, _⟩ := own_shape hown
      have G2 := G1.addO hb hown
      simp only [List.cons_append, List.nil_append] at G2
      clear hown hb
      (try go_wp2_with fail)
      refine hK.out _ _ (fun _ => ⟨G2.c 0 0 rfl rfl, G2.c 0 1 rfl rfl, G2.c 0 2 rfl rfl, (G2.bel.cell (p := ⟨gb, ob + m, none⟩) hlb).trans HCB.out⟩) trivial (fun hHeld hHeld1 => ?_)
      replace hHeld := hHeld rfl
      clear hK K
      try simp only [Act.put, List.setIfInBounds_toArray, List.set_cons_zero, List.set_cons_succ]
      refine readyJ (rs := [5]) (by kernel_rfl) (by simp) ?_
      refine (AllJ.cons rfl ?op5x17y2z AllJ.nil)
      case op5x17y2z =>
        intro K hK
        go_simp
        go_at_call 46
        refine (copyNumbers_any (some ⟨gb, ob, none⟩) d st w2 (G2.lw 1 rfl) (by have := HL2.out; omega)).mono ?_
        rintro e w3 ⟨v, rfl, hown, hb⟩
        obtain ⟨a5, c5, rfl, _⟩ := own_shape hown
        have G3 := G2.addO hb hown
        simp only [List.cons_append, List.nil_append] at G3
        clear hown hb
        (try go_wp2_with fail)
        refine hK.out _ _ (fun _ => ⟨G3.c 0 0 rfl rfl, G3.c 0 1 rfl rfl, G3.c 0 2 rfl rfl, (G3.bel.cell (p := ⟨gb, ob + m, none⟩) hlb).trans HCB.out⟩) trivial (fun hHeld hHeld1 => ?_)
        replace hHeld := hHeld rfl
        clear hK K
        try simp only [Act.put, List.setIfInBounds_toArray, List.set_cons_zero, List.set_cons_succ]
        refine takeJ (i := 16) (dst := (some 26)) (v := ?_) rfl rfl (by kernel_rfl) (by kernel_rfl) (by kernel_rfl) (by kernel_rfl) (fun _ _ _ h => h) (by rfl) ?hy16n17 hHeld trivial ?rest16n17
        case hy16n17 => (intro W hSw; (try dsimp only at hSw); obtain ⟨s0, s1, s2, s3⟩ := hSw; go_simp; (try with_reducible rfl))
        try simp only [Act.put, List.setIfInBounds_toArray, List.set_cons_zero, List.set_cons_succ]
        refine readyJ (rs := [18]) (by kernel_rfl) (by simp) ?_
        refine (AllJ.cons rfl ?op18x17y2y5y16z AllJ.nil)
        case op18x17y2y5y16z =>
          intro K hK
          have e0 := G3.c 2 0 rfl rfl
          have e1 := G3.c 2 1 rfl rfl
          have e2 := G3.c 2 2 rfl rfl
          have ef0 := G3.f 2 0 rfl rfl
          have ef1 := G3.f 2 1 rfl rfl
          have ef2 := G3.f 2 2 rfl rfl
          go_simp
          have G5 := G3.set 2 rfl (by simp) [.slice a2 sh.length c2, .slice a5 st.length c5, .int .i64 (off + (f : Int) * y)] rfl
          simp only [setL, Nat.reduceAdd, List.set_cons_zero, List.set_cons_succ] at G5
          clear e0 ef0 e1 ef1 e2 ef2
          refine hK.out _ _ (fun _ => ⟨G5.c 0 0 rfl rfl, G5.c 0 1 rfl rfl, G5.c 0 2 rfl rfl, (G5.bel.cell (p := ⟨gb, ob + m, none⟩) hlb).trans HCB.out⟩) trivial (fun hHeld hHeld1 => ?_)
          replace hHeld := hHeld rfl
          clear hK K
          try simp only [Act.put, List.setIfInBounds_toArray, List.set_cons_zero, List.set_cons_succ]
          refine doneJ (by kernel_rfl) ?_
          have F9 := Lib.hid G5
          obtain ⟨V9, hV9⟩ : ∃ zz, (((w3.setCell ⟨Q, 0, none⟩ (.slice a2 sh.length c2)).setCell ⟨Q, 1, none⟩ (.slice a5 st.length c5)).setCell ⟨Q, 2, none⟩ (.int .i64 (off + (f : Int) * y))) = zz := ⟨_, rfl⟩
          rw [hV9] at F9 ⊢
          clear hV9 hHeld hHeld1 F2
          have u1_0 := F9.out.c 1 0 rfl rfl
          have u1_1 := F9.out.c 1 1 rfl rfl
          have u1_2 := F9.out.c 1 2 rfl rfl
          have u2_0 := F9.out.c 2 0 rfl rfl
          have u2_1 := F9.out.c 2 1 rfl rfl
          have u2_2 := F9.out.c 2 2 rfl rfl
          have uf1_0 := F9.out.f 1 0 rfl rfl
          have uf1_1 := F9.out.f 1 1 rfl rfl
          have uf1_2 := F9.out.f 1 2 rfl rfl
          obtain ⟨a0, c0, he, hsh⟩ := own_shape (F9.out.r 0 rfl)
          simp only [Value.slice.injEq] at he
          obtain ⟨rfl, _, rfl⟩ := he
          obtain ⟨g, rfl, _⟩ := hsh.resolve_left (by show ¬ sh.length = 0; omega)
          have hget : (sh.map (Value.int .i64))[m]? = some (.int .i64 sh[m]) := by rw [List.getElem?_map, List.getElem?_eq_getElem hm]; rfl
          obtain ⟨r1, r2⟩ := F9.out.rc 0 m rfl hget
          go_upto_region 3 with fail
          have FP := F9.out.put 0 m rfl (.int .i64 ((t : Int) - (f : Int)))
          simp only [List.set_cons_zero, List.set_cons_succ] at FP
          rw [map_set] at FP
          obtain ⟨V10, hV10⟩ : ∃ zz, V9.setCell ⟨g, m, none⟩ (.int .i64 ((t : Int) - (f : Int))) = zz := ⟨_, rfl⟩
          rw [hV10] at FP ⊢
          clear hV10 r1 r2 hget F9 u1_0 u1_1 u1_2 u2_0 u2_1 u2_2 uf1_0 uf1_1 uf1_2
          have FP9 := Lib.hid FP
          clear FP
          have u1_0 := FP9.out.c 1 0 rfl rfl
          have u1_1 := FP9.out.c 1 1 rfl rfl
          have u1_2 := FP9.out.c 1 2 rfl rfl
          have u2_0 := FP9.out.c 2 0 rfl rfl
          have u2_1 := FP9.out.c 2 1 rfl rfl
          have u2_2 := FP9.out.c 2 2 rfl rfl
          have uf1_0 := FP9.out.f 1 0 rfl rfl
          have uf1_1 := FP9.out.f 1 1 rfl rfl
          have uf1_2 := FP9.out.f 1 2 rfl rfl
          go_wp2
          have FZ := FP9.out.set 1 rfl (by simp) [.slice (some ⟨g, 0, none⟩) sh.length c2, .slice a5 st.length c5, .int .i64 (off + (f : Int) * y)] rfl
          simp only [setL, Nat.reduceAdd, List.set_cons_zero, List.set_cons_succ] at FZ
          have y0 := FZ.c 1 0 rfl rfl
          have y1 := FZ.c 1 1 rfl rfl
          have y2 := FZ.c 1 2 rfl rfl
          refine bodyPost_ret (v := .agg #[.slice (some ⟨g, 0, none⟩) sh.length c2, .slice a5 st.length c5, .int .i64 (off + (f : Int) * y)]) ?_ rfl ⟨some ⟨g, 0, none⟩, c2, a5, c5, by rw [List.length_set], by rw [List.length_set]; exact FZ.rows⟩
          rw [results_cV rfl]
          go_simp
set_option maxRecDepth 100000 in
set_option maxHeartbeats 4000000 in
theorem vslice_good (a b : Option Addr) (c d : Nat) (sh st : List Int) (off : Int) (m f t : Nat) (w : World) (h : Ints .i64 w w.heap.size a sh) (h2 : Ints .i64 w w.heap.size b st) (hv : viewB sh st off 65536 = true) (hm : m < sh.length) (hft : f < t) (ht : (t : Int) ≤ sh[m]?.getD 0) :
    Calls Try.prog 29 #[.agg #[.slice a sh.length c, .slice b st.length d, .int .i64 off], .int .i64 (m : Int), .int .i64 (f : Int), .int .i64 (t : Int)] w (RetVE w (sh.set m ((t : Int) - (f : Int))) st (off + (f : Int) * (st[m]?.getD 0)) 0) := by
  have HA := Lib.hid h
  have HB := Lib.hid h2
  have hv0 := viewB_iff.1 hv
  have h4 := (goodB_iff.1 hv0.1).1
  have hoff := hv0.2.2.1
  have hoff2 := hv0.2.2.2.2.1
  have hl2 := hv0.2.1
  have HL2 := Lib.hid hl2
  have hmT : m < st.length := by omega
  have hgv := fun W (h : Ints .i64 W W.heap.size a sh) (h2 : Ints .i64 W W.heap.size b st) => vgood_any a b c d W.heap.size sh st off 65536 W h h2 (Nat.le_refl _)
  rw [hv] at hgv
  obtain ⟨_, _, hcA⟩ := h
  obtain ⟨_, _, hcB⟩ := h2
  obtain ⟨ga, oa, rfl, hla, hca⟩ := hcA m hm
  obtain ⟨gb, ob, rfl, hlb, hcb⟩ := hcB m hmT
  have hd := (goodB_dims hv0.1).at hm
  have hs := hv0.2.2.2.2.2.1 _ (List.getElem_mem hmT)
  rw [List.getElem?_eq_getElem hm] at hca ht
  rw [List.getElem?_eq_getElem hmT] at hcb
  have hge : st[m]?.getD 0 = st[m] := by rw [List.getElem?_eq_getElem hmT]; rfl
  rw [hge]
  simp only [Option.getD_some] at hca hcb ht
  obtain ⟨x, hxe⟩ : ∃ x, sh[m] = x := ⟨_, rfl⟩
  obtain ⟨y, hye⟩ : ∃ y, st[m] = y := ⟨_, rfl⟩
  rw [hxe] at hca ht hd
  rw [hye] at hcb hs ⊢
  have HCA := Lib.hid hca
  have HCB := Lib.hid hcb
  have hp1 : 0 ≤ (f : Int) * y := Int.mul_nonneg (by omega) hs.1
  have hp2 : (f : Int) * y ≤ 4096 * 65536 := Int.mul_le_mul (by omega) hs.2 hs.1 (by omega)
  have hwr1 : IntKind.i64.wrap ((f : Int) * y) = (f : Int) * y := IntWalk.i64_in _ (by omega)
  have hwr2 : IntKind.i64.wrap (off + (f : Int) * y) = off + (f : Int) * y := IntWalk.i64_in _ (by omega)
  have hwr3 : IntKind.i64.wrap ((t : Int) - (f : Int)) = (t : Int) - (f : Int) := IntWalk.i64_in _ (by omega)
  have htx : ¬ x < (t : Int) := by omega
  have htf : ¬ (t : Int) ≤ (f : Int) := by omega
  have hml : ¬ (sh.length : Int) ≤ (m : Int) := by omega
  clear hcA hcB hca hcb hxe hye hd hs hp1 hp2 hv hv0 hge ht hl2
  go_enter Try.func29, Try.ntmps29
  have F1 := Lib.hid (((Fr.start (w := w) (I := [(.i64, (some ⟨ga, oa, none⟩), sh), (.i64, (some ⟨gb, ob, none⟩), st)]) (by intro z hz; simp at hz; rcases hz with rfl | rfl; exact HA.out; exact HB.out)).box1 (b := w.heap.size) rfl [.slice (some ⟨ga, oa, none⟩) sh.length c, .slice (some ⟨gb, ob, none⟩) st.length d, .int .i64 off] 25).box1 (b := w.heap.size + 1) (by simp) [.slice none 0 0, .slice none 0 0, .int .i64 0] 25)
  simp only [List.nil_append, List.cons_append] at F1
  go_upto_region 1 with fail
  obtain ⟨W1, hW1⟩ : ∃ W1, ((w.alloc (.cells #[.slice (some ⟨ga, oa, none⟩) sh.length c, .slice (some ⟨gb, ob, none⟩) st.length d, .int .i64 off] 25)).alloc (.cells #[.slice none 0 0, .slice none 0 0, .int .i64 0] 25)) = W1 := ⟨_, rfl⟩
  rw [hW1] at F1 ⊢
  clear hW1
  have c0_0 := F1.out.c 0 0 rfl rfl
  have c0_1 := F1.out.c 0 1 rfl rfl
  have c0_2 := F1.out.c 0 2 rfl rfl
  go_upto_region 5 with (go_at_call 49; refine (hgv _ (F1.out.lw 0 rfl) (F1.out.lw 1 rfl)).mono ?_; rintro e w2 ⟨rfl, hb⟩; have F2 := Lib.hid (F1.out.next hb); clear hb F1 c0_0 c0_1 c0_2; have d0_0 := F2.out.c 0 0 rfl rfl; have d0_1 := F2.out.c 0 1 rfl rfl; have d0_2 := F2.out.c 0 2 rfl rfl; have hcx := (F2.out.bel.cell (p := ⟨ga, oa + m, none⟩) hla).trans HCA.out)
  clear hcx d0_0 d0_1 d0_2
  obtain ⟨wk, rfl⟩ : ∃ z : World, z = w2 := ⟨_, rfl⟩
  clear hgv
  have FD := F2.out.drew
  refine wp_region_J (S := fun W => W.cell? ⟨w.heap.size, 0, none⟩ = some (.slice (some ⟨ga, oa, none⟩) sh.length c) ∧ W.cell? ⟨w.heap.size, 1, none⟩ = some (.slice (some ⟨gb, ob, none⟩) st.length d) ∧ W.cell? ⟨w.heap.size, 2, none⟩ = some (.int .i64 off) ∧ W.cell? ⟨gb, ob + m, none⟩ = some (.int .i64 y)) (S1 := fun _ => True) (L := []) (by kernel_rfl) ⟨FD.c 0 0 rfl rfl, FD.c 0 1 rfl rfl, FD.c 0 2 rfl rfl, (FD.bel.cell (p := ⟨gb, ob + m, none⟩) hlb).trans HCB.out⟩ trivial (fun hHeld hHeld1 => ?_)
  obtain ⟨w0, hw0⟩ : ∃ zz, wk.drew = zz := ⟨_, rfl⟩
  rw [hw0] at FD hHeld ⊢
  clear hw0
  refine takeJ (i := 0) (dst := (some 45)) (v := ?_) rfl rfl (by kernel_rfl) (by kernel_rfl) (by kernel_rfl) (by kernel_rfl) (fun _ _ _ h => h) (by rfl) ?hy0n1 hHeld trivial ?rest0n1
  case hy0n1 => (intro W hSw; (try dsimp only at hSw); obtain ⟨s0, s1, s2, s3⟩ := hSw; go_simp; (try with_reducible rfl))
  try simp only [Act.put, List.setIfInBounds_toArray, List.set_cons_zero, List.set_cons_succ]
  refine takeJ (i := 1) (dst := (some 46)) (v := ?_) rfl rfl (by kernel_rfl) (by kernel_rfl) (by kernel_rfl) (by kernel_rfl) (fun _ _ _ h => h) (by rfl) ?hy1n2 hHeld trivial ?rest1n2
  case hy1n2 => (intro W hSw; (try dsimp only at hSw); obtain ⟨s0, s1, s2, s3⟩ := hSw; go_simp; (try with_reducible rfl))
  try simp only [Act.put, List.setIfInBounds_toArray, List.set_cons_zero, List.set_cons_succ]
  refine takeJ (i := 3) (dst := (some 48)) (v := ?_) rfl rfl (by kernel_rfl) (by kernel_rfl) (by kernel_rfl) (by kernel_rfl) (fun _ _ _ h => h) (by rfl) ?hy3n3 hHeld trivial ?rest3n3
  case hy3n3 => (intro W hSw; (try dsimp only at hSw); obtain ⟨s0, s1, s2, s3⟩ := hSw; go_simp; (try with_reducible rfl))
  try simp only [Act.put, List.setIfInBounds_toArray, List.set_cons_zero, List.set_cons_succ]
  refine takeJ (i := 4) (dst := (some 49)) (v := ?_) rfl rfl (by kernel_rfl) (by kernel_rfl) (by kernel_rfl) (by kernel_rfl) (fun _ _ _ h => h) (by rfl) ?hy4n4 hHeld trivial ?rest4n4
  case hy4n4 => (intro W hSw; (try dsimp only at hSw); obtain ⟨s0, s1, s2, s3⟩ := hSw; go_simp; (try with_reducible rfl))
  try simp only [Act.put, List.setIfInBounds_toArray, List.set_cons_zero, List.set_cons_succ]
  refine takeJ (i := 6) (dst := (some 51)) (v := ?_) rfl rfl (by kernel_rfl) (by kernel_rfl) (by kernel_rfl) (by kernel_rfl) (fun _ _ _ h => h) (by rfl) ?hy6n5 hHeld trivial ?rest6n5
  case hy6n5 => (intro W hSw; (try dsimp only at hSw); obtain ⟨s0, s1, s2, s3⟩ := hSw; go_simp; (try with_reducible rfl))
  try simp only [Act.put, List.setIfInBounds_toArray, List.set_cons_zero, List.set_cons_succ]
  refine takeJ (i := 7) (dst := (some 52)) (v := ?_) rfl rfl (by kernel_rfl) (by kernel_rfl) (by kernel_rfl) (by kernel_rfl) (fun _ _ _ h => h) (by rfl) ?hy7n6 hHeld trivial ?rest7n6
  case hy7n6 => (intro W hSw; (try dsimp only at hSw); obtain ⟨s0, s1, s2, s3⟩ := hSw; go_simp; (try with_reducible rfl))
  try simp only [Act.put, List.setIfInBounds_toArray, List.set_cons_zero, List.set_cons_succ]
  refine takeJ (i := 8) (dst := (some 53)) (v := ?_) rfl rfl (by kernel_rfl) (by kernel_rfl) (by kernel_rfl) (by kernel_rfl) (fun _ _ _ h => h) (by rfl) ?hy8n7 hHeld trivial ?rest8n7
  case hy8n7 => (intro W hSw; (try dsimp only at hSw); obtain ⟨s0, s1, s2, s3⟩ := hSw; go_simp; (try with_reducible rfl))
  try simp only [Act.put, List.setIfInBounds_toArray, List.set_cons_zero, List.set_cons_succ]
  refine takeJ (i := 9) (dst := (some 54)) (v := ?_) rfl rfl (by kernel_rfl) (by kernel_rfl) (by kernel_rfl) (by kernel_rfl) (fun _ _ _ h => h) (by rfl) ?hy9n8 hHeld trivial ?rest9n8
  case hy9n8 => (intro W hSw; (try dsimp only at hSw); obtain ⟨s0, s1, s2, s3⟩ := hSw; go_simp; (try with_reducible rfl))
  try simp only [Act.put, List.setIfInBounds_toArray, List.set_cons_zero, List.set_cons_succ]
  refine takeJ (i := 10) (dst := (some 55)) (v := ?_) rfl rfl (by kernel_rfl) (by kernel_rfl) (by kernel_rfl) (by kernel_rfl) (fun _ _ _ h => h) (by rfl) ?hy10n9 hHeld trivial ?rest10n9
  case hy10n9 => (intro W hSw; (try dsimp only at hSw); obtain ⟨s0, s1, s2, s3⟩ := hSw; go_simp; (try with_reducible rfl))
  try simp only [Act.put, List.setIfInBounds_toArray, List.set_cons_zero, List.set_cons_succ]
  refine takeJ (i := 11) (dst := (some 56)) (v := ?_) rfl rfl (by kernel_rfl) (by kernel_rfl) (by kernel_rfl) (by kernel_rfl) (fun _ _ _ h => h) (by rfl) ?hy11n10 hHeld trivial ?rest11n10
  case hy11n10 => (intro W hSw; (try dsimp only at hSw); obtain ⟨s0, s1, s2, s3⟩ := hSw; go_simp; (try with_reducible rfl))
  try simp only [Act.put, List.setIfInBounds_toArray, List.set_cons_zero, List.set_cons_succ]
  refine takeJ (i := 12) (dst := (some 57)) (v := ?_) rfl rfl (by kernel_rfl) (by kernel_rfl) (by kernel_rfl) (by kernel_rfl) (fun _ _ _ h => h) (by rfl) ?hy12n11 hHeld trivial ?rest12n11
  case hy12n11 => (intro W hSw; (try dsimp only at hSw); obtain ⟨s0, s1, s2, s3⟩ := hSw; go_simp; (try with_reducible rfl))
  try simp only [Act.put, List.setIfInBounds_toArray, List.set_cons_zero, List.set_cons_succ]
  refine takeJ (i := 13) (dst := (some 58)) (v := ?_) rfl rfl (by kernel_rfl) (by kernel_rfl) (by kernel_rfl) (by kernel_rfl) (fun _ _ _ h => h) (by rfl) ?hy13n12 hHeld trivial ?rest13n12
  case hy13n12 => (intro W hSw; (try dsimp only at hSw); obtain ⟨s0, s1, s2, s3⟩ := hSw; go_simp; (try with_reducible rfl))
  try simp only [Act.put, List.setIfInBounds_toArray, List.set_cons_zero, List.set_cons_succ]
  refine takeJ (i := 14) (dst := (some 59)) (v := ?_) rfl rfl (by kernel_rfl) (by kernel_rfl) (by kernel_rfl) (by kernel_rfl) (fun _ _ _ h => h) (by rfl) ?hy14n13 hHeld trivial ?rest14n13
  case hy14n13 => (intro W hSw; (try dsimp only at hSw); obtain ⟨s0, s1, s2, s3⟩ := hSw; go_simp; (try with_reducible rfl))
  try simp only [Act.put, List.setIfInBounds_toArray, List.set_cons_zero, List.set_cons_succ]
  refine takeJ (i := 15) (dst := (some 60)) (v := ?_) rfl rfl (by kernel_rfl) (by kernel_rfl) (by kernel_rfl) (by kernel_rfl) (fun _ _ _ h => h) (by rfl) ?hy15n14 hHeld trivial ?rest15n14
  case hy15n14 => (intro W hSw; (try dsimp only at hSw); obtain ⟨s0, s1, s2, s3⟩ := hSw; go_simp; (try with_reducible rfl))
  try simp only [Act.put, List.setIfInBounds_toArray, List.set_cons_zero, List.set_cons_succ]
  refine readyJ (rs := [2, 17]) (by kernel_rfl) (by simp) ?_
  refine (AllJ.cons rfl ?op2xz (AllJ.cons rfl ?op17xz AllJ.nil))
  case op2xz =>
    intro K hK
    go_simp
    go_at_call 51
    refine (clone_any (some ⟨ga, oa, none⟩) c sh w0 (FD.lw 0 rfl) (by have := HL2.out; omega)).mono ?_
    rintro e w1 ⟨v, rfl, hown, hb⟩
    obtain ⟨a2, c2, rfl, _⟩ := own_shape hown
    have G1 := FD.addO hb hown
    simp only [List.cons_append, List.nil_append] at G1
    clear hown hb
    (try go_wp2_with fail)
    refine hK.out _ _ (fun _ => ⟨G1.c 0 0 rfl rfl, G1.c 0 1 rfl rfl, G1.c 0 2 rfl rfl, (G1.bel.cell (p := ⟨gb, ob + m, none⟩) hlb).trans HCB.out⟩) trivial (fun hHeld hHeld1 => ?_)
    replace hHeld := hHeld rfl
    clear hK K
    try simp only [Act.put, List.setIfInBounds_toArray, List.set_cons_zero, List.set_cons_succ]
    refine readyJ (rs := [5, 17]) (by kernel_rfl) (by simp) ?_
    refine (AllJ.cons rfl ?op5x2z (AllJ.cons rfl ?op17x2z AllJ.nil))
    case op5x2z =>
      intro K hK
      go_simp
      go_at_call 51
      refine (clone_any (some ⟨gb, ob, none⟩) d st w1 (G1.lw 1 rfl) (by have := HL2.out; omega)).mono ?_
      rintro e w2 ⟨v, rfl, hown, hb⟩
      obtain ⟨a5, c5, rfl, _⟩ := own_shape hown
      have G2 := G1.addO hb hown
      simp only [List.cons_append, List.nil_append] at G2
      clear hown hb
      (try go_wp2_with fail)
      refine hK.out _ _ (fun _ => ⟨G2.c 0 0 rfl rfl, G2.c 0 1 rfl rfl, G2.c 0 2 rfl rfl, (G2.bel.cell (p := ⟨gb, ob + m, none⟩) hlb).trans HCB.out⟩) trivial (fun hHeld hHeld1 => ?_)
      replace hHeld := hHeld rfl
      clear hK K
      try simp only [Act.put, List.setIfInBounds_toArray, List.set_cons_zero, List.set_cons_succ]
      refine takeJ (i := 16) (dst := (some 61)) (v := ?_) rfl rfl (by kernel_rfl) (by kernel_rfl) (by kernel_rfl) (by kernel_rfl) (fun _ _ _ h => h) (by rfl) ?hy16n15 hHeld trivial ?rest16n15
      case hy16n15 => (intro W hSw; (try dsimp only at hSw); obtain ⟨s0, s1, s2, s3⟩ := hSw; go_simp; (try with_reducible rfl))
      try simp only [Act.put, List.setIfInBounds_toArray, List.set_cons_zero, List.set_cons_succ]
      refine readyJ (rs := [17]) (by kernel_rfl) (by simp) ?_
      refine (AllJ.cons rfl ?op17x2y5y16z AllJ.nil)
      case op17x2y5y16z =>
        intro K hK
        go_simp
        obtain ⟨Q, hQ⟩ : ∃ zz, w2.heap.size = zz := ⟨_, rfl⟩
        rw [hQ]
        have G4 := G2.box1 hQ [.slice none 0 0, .slice none 0 0, .int .i64 0] 25
        simp only [List.cons_append, List.nil_append] at G4
        obtain ⟨w4, hw4⟩ : ∃ zz, (w2.alloc (.cells #[.slice none 0 0, .slice none 0 0, .int .i64 0] 25)) = zz := ⟨_, rfl⟩
        rw [hw4] at G4 ⊢
        clear hw4 hQ
        refine hK.out _ _ (fun _ => ⟨G4.c 0 0 rfl rfl, G4.c 0 1 rfl rfl, G4.c 0 2 rfl rfl, (G4.bel.cell (p := ⟨gb, ob + m, none⟩) hlb).trans HCB.out⟩) trivial (fun hHeld hHeld1 => ?_)
        replace hHeld := hHeld rfl
        clear hK K
        try simp only [Act.put, List.setIfInBounds_toArray, List.set_cons_zero, List.set_cons_succ]
        refine readyJ (rs := [18]) (by kernel_rfl) (by simp) ?_
        refine (AllJ.cons rfl ?op18x2y5y16y17z AllJ.nil)
        case op18x2y5y16y17z =>
          intro K hK
          have e0 := G4.c 2 0 rfl rfl
          have e1 := G4.c 2 1 rfl rfl
          have e2 := G4.c 2 2 rfl rfl
          have ef0 := G4.f 2 0 rfl rfl
          have ef1 := G4.f 2 1 rfl rfl
          have ef2 := G4.f 2 2 rfl rfl
          go_simp
          have G5 := G4.set 2 rfl (by simp) [.slice a2 sh.length c2, .slice a5 st.length c5, .int .i64 (off + (f : Int) * y)] rfl
          simp only [setL, Nat.reduceAdd, List.set_cons_zero, List.set_cons_succ] at G5
          clear e0 ef0 e1 ef1 e2 ef2
          refine hK.out _ _ (fun _ => ⟨G5.c 0 0 rfl rfl, G5.c 0 1 rfl rfl, G5.c 0 2 rfl rfl, (G5.bel.cell (p := ⟨gb, ob + m, none⟩) hlb).trans HCB.out⟩) trivial (fun hHeld hHeld1 => ?_)
          replace hHeld := hHeld rfl
          clear hK K
          try simp only [Act.put, List.setIfInBounds_toArray, List.set_cons_zero, List.set_cons_succ]
          refine doneJ (by kernel_rfl) ?_
          have F9 := Lib.hid G5
          obtain ⟨V9, hV9⟩ : ∃ zz, (((w4.setCell ⟨Q, 0, none⟩ (.slice a2 sh.length c2)).setCell ⟨Q, 1, none⟩ (.slice a5 st.length c5)).setCell ⟨Q, 2, none⟩ (.int .i64 (off + (f : Int) * y))) = zz := ⟨_, rfl⟩
          rw [hV9] at F9 ⊢
          clear hV9 hHeld hHeld1 F2
          have u1_0 := F9.out.c 1 0 rfl rfl
          have u1_1 := F9.out.c 1 1 rfl rfl
          have u1_2 := F9.out.c 1 2 rfl rfl
          have u2_0 := F9.out.c 2 0 rfl rfl
          have u2_1 := F9.out.c 2 1 rfl rfl
          have u2_2 := F9.out.c 2 2 rfl rfl
          have uf1_0 := F9.out.f 1 0 rfl rfl
          have uf1_1 := F9.out.f 1 1 rfl rfl
          have uf1_2 := F9.out.f 1 2 rfl rfl
          obtain ⟨a0, c0, he, hsh⟩ := own_shape (F9.out.r 0 rfl)
          simp only [Value.slice.injEq] at he
          obtain ⟨rfl, _, rfl⟩ := he
          obtain ⟨g, rfl, _⟩ := hsh.resolve_left (by show ¬ sh.length = 0; omega)
          have hget : (sh.map (Value.int .i64))[m]? = some (.int .i64 sh[m]) := by rw [List.getElem?_map, List.getElem?_eq_getElem hm]; rfl
          obtain ⟨r1, r2⟩ := F9.out.rc 0 m rfl hget
          go_upto_region 7 with fail
          have FP := F9.out.put 0 m rfl (.int .i64 ((t : Int) - (f : Int)))
          simp only [List.set_cons_zero, List.set_cons_succ] at FP
          rw [map_set] at FP
          obtain ⟨V10, hV10⟩ : ∃ zz, V9.setCell ⟨g, m, none⟩ (.int .i64 ((t : Int) - (f : Int))) = zz := ⟨_, rfl⟩
          rw [hV10] at FP ⊢
          clear hV10 r1 r2 hget F9 u1_0 u1_1 u1_2 u2_0 u2_1 u2_2 uf1_0 uf1_1 uf1_2
          have FP9 := Lib.hid FP
          clear FP
          have u1_0 := FP9.out.c 1 0 rfl rfl
          have u1_1 := FP9.out.c 1 1 rfl rfl
          have u1_2 := FP9.out.c 1 2 rfl rfl
          have u2_0 := FP9.out.c 2 0 rfl rfl
          have u2_1 := FP9.out.c 2 1 rfl rfl
          have u2_2 := FP9.out.c 2 2 rfl rfl
          have uf1_0 := FP9.out.f 1 0 rfl rfl
          have uf1_1 := FP9.out.f 1 1 rfl rfl
          have uf1_2 := FP9.out.f 1 2 rfl rfl
          go_wp2
          have FZ := FP9.out.set 1 rfl (by simp) [.slice (some ⟨g, 0, none⟩) sh.length c2, .slice a5 st.length c5, .int .i64 (off + (f : Int) * y)] rfl
          simp only [setL, Nat.reduceAdd, List.set_cons_zero, List.set_cons_succ] at FZ
          have y0 := FZ.c 1 0 rfl rfl
          have y1 := FZ.c 1 1 rfl rfl
          have y2 := FZ.c 1 2 rfl rfl
          refine bodyPost_ret (v := .tuple #[.agg #[.slice (some ⟨g, 0, none⟩) sh.length c2, .slice a5 st.length c5, .int .i64 (off + (f : Int) * y)], .int .i64 0]) ?_ rfl ⟨some ⟨g, 0, none⟩, c2, a5, c5, by rw [List.length_set], by rw [List.length_set]; exact FZ.rows⟩
          rw [results_ctW rfl]
          go_simp
    case op17x2z =>
      intro K hK
      go_simp
      obtain ⟨Q, hQ⟩ : ∃ zz, w1.heap.size = zz := ⟨_, rfl⟩
      rw [hQ]
      have G2 := G1.box1 hQ [.slice none 0 0, .slice none 0 0, .int .i64 0] 25
      simp only [List.cons_append, List.nil_append] at G2
      obtain ⟨w2, hw2⟩ : ∃ zz, (w1.alloc (.cells #[.slice none 0 0, .slice none 0 0, .int .i64 0] 25)) = zz := ⟨_, rfl⟩
      rw [hw2] at G2 ⊢
      clear hw2 hQ
      refine hK.out _ _ (fun _ => ⟨G2.c 0 0 rfl rfl, G2.c 0 1 rfl rfl, G2.c 0 2 rfl rfl, (G2.bel.cell (p := ⟨gb, ob + m, none⟩) hlb).trans HCB.out⟩) trivial (fun hHeld hHeld1 => ?_)
      replace hHeld := hHeld rfl
      clear hK K
      try simp only [Act.put, List.setIfInBounds_toArray, List.set_cons_zero, List.set_cons_succ]
      refine readyJ (rs := [5]) (by kernel_rfl) (by simp) ?_
      refine (AllJ.cons rfl ?op5x2y17z AllJ.nil)
      case op5x2y17z =>
        intro K hK
        go_simp
        go_at_call 51
        refine (clone_any (some ⟨gb, ob, none⟩) d st w2 (G2.lw 1 rfl) (by have := HL2.out; omega)).mono ?_
        rintro e w3 ⟨v, rfl, hown, hb⟩
        obtain ⟨a5, c5, rfl, _⟩ := own_shape hown
        have G3 := G2.addO hb hown
        simp only [List.cons_append, List.nil_append] at G3
        clear hown hb
        (try go_wp2_with fail)
        refine hK.out _ _ (fun _ => ⟨G3.c 0 0 rfl rfl, G3.c 0 1 rfl rfl, G3.c 0 2 rfl rfl, (G3.bel.cell (p := ⟨gb, ob + m, none⟩) hlb).trans HCB.out⟩) trivial (fun hHeld hHeld1 => ?_)
        replace hHeld := hHeld rfl
        clear hK K
        try simp only [Act.put, List.setIfInBounds_toArray, List.set_cons_zero, List.set_cons_succ]
        refine takeJ (i := 16) (dst := (some 61)) (v := ?_) rfl rfl (by kernel_rfl) (by kernel_rfl) (by kernel_rfl) (by kernel_rfl) (fun _ _ _ h => h) (by rfl) ?hy16n16 hHeld trivial ?rest16n16
        case hy16n16 => (intro W hSw; (try dsimp only at hSw); obtain ⟨s0, s1, s2, s3⟩ := hSw; go_simp; (try with_reducible rfl))
        try simp only [Act.put, List.setIfInBounds_toArray, List.set_cons_zero, List.set_cons_succ]
        refine readyJ (rs := [18]) (by kernel_rfl) (by simp) ?_
        refine (AllJ.cons rfl ?op18x2y17y5y16z AllJ.nil)
        case op18x2y17y5y16z =>
          intro K hK
          have e0 := G3.c 2 0 rfl rfl
          have e1 := G3.c 2 1 rfl rfl
          have e2 := G3.c 2 2 rfl rfl
          have ef0 := G3.f 2 0 rfl rfl
          have ef1 := G3.f 2 1 rfl rfl
          have ef2 := G3.f 2 2 rfl rfl
          go_simp
          have G5 := G3.set 2 rfl (by simp) [.slice a2 sh.length c2, .slice a5 st.length c5, .int .i64 (off + (f : Int) * y)] rfl
          simp only [setL, Nat.reduceAdd, List.set_cons_zero, List.set_cons_succ] at G5
          clear e0 ef0 e1 ef1 e2 ef2
          refine hK.out _ _ (fun _ => ⟨G5.c 0 0 rfl rfl, G5.c 0 1 rfl rfl, G5.c 0 2 rfl rfl, (G5.bel.cell (p := ⟨gb, ob + m, none⟩) hlb).trans HCB.out⟩) trivial (fun hHeld hHeld1 => ?_)
          replace hHeld := hHeld rfl
          clear hK K
          try simp only [Act.put, List.setIfInBounds_toArray, List.set_cons_zero, List.set_cons_succ]
          refine doneJ (by kernel_rfl) ?_
          have F9 := Lib.hid G5
          obtain ⟨V9, hV9⟩ : ∃ zz, (((w3.setCell ⟨Q, 0, none⟩ (.slice a2 sh.length c2)).setCell ⟨Q, 1, none⟩ (.slice a5 st.length c5)).setCell ⟨Q, 2, none⟩ (.int .i64 (off + (f : Int) * y))) = zz := ⟨_, rfl⟩
          rw [hV9] at F9 ⊢
          clear hV9 hHeld hHeld1 F2
          have u1_0 := F9.out.c 1 0 rfl rfl
          have u1_1 := F9.out.c 1 1 rfl rfl
          have u1_2 := F9.out.c 1 2 rfl rfl
          have u2_0 := F9.out.c 2 0 rfl rfl
          have u2_1 := F9.out.c 2 1 rfl rfl
          have u2_2 := F9.out.c 2 2 rfl rfl
          have uf1_0 := F9.out.f 1 0 rfl rfl
          have uf1_1 := F9.out.f 1 1 rfl rfl
          have uf1_2 := F9.out.f 1 2 rfl rfl
          obtain ⟨a0, c0, he, hsh⟩ := own_shape (F9.out.r 0 rfl)
          simp only [Value.slice.injEq] at he
          obtain ⟨rfl, _, rfl⟩ := he
          obtain ⟨g, rfl, _⟩ := hsh.resolve_left (by show ¬ sh.length = 0; omega)
          have hget : (sh.map (Value.int .i64))[m]? = some (.int .i64 sh[m]) := by rw [List.getElem?_map, List.getElem?_eq_getElem hm]; rfl
          obtain ⟨r1, r2⟩ := F9.out.rc 0 m rfl hget
          go_upto_region 7 with fail
          have FP := F9.out.put 0 m rfl (.int .i64 ((t : Int) - (f : Int)))
          simp only [List.set_cons_zero, List.set_cons_succ] at FP
          rw [map_set] at FP
          obtain ⟨V10, hV10⟩ : ∃ zz, V9.setCell ⟨g, m, none⟩ (.int .i64 ((t : Int) - (f : Int))) = zz := ⟨_, rfl⟩
          rw [hV10] at FP ⊢
          clear hV10 r1 r2 hget F9 u1_0 u1_1 u1_2 u2_0 u2_1 u2_2 uf1_0 uf1_1 uf1_2
          have FP9 := Lib.hid FP
          clear FP
          have u1_0 := FP9.out.c 1 0 rfl rfl
          have u1_1 := FP9.out.c 1 1 rfl rfl
          have u1_2 := FP9.out.c 1 2 rfl rfl
          have u2_0 := FP9.out.c 2 0 rfl rfl
          have u2_1 := FP9.out.c 2 1 rfl rfl
          have u2_2 := FP9.out.c 2 2 rfl rfl
          have uf1_0 := FP9.out.f 1 0 rfl rfl
          have uf1_1 := FP9.out.f 1 1 rfl rfl
          have uf1_2 := FP9.out.f 1 2 rfl rfl
          go_wp2
          have FZ := FP9.out.set 1 rfl (by simp) [.slice (some ⟨g, 0, none⟩) sh.length c2, .slice a5 st.length c5, .int .i64 (off + (f : Int) * y)] rfl
          simp only [setL, Nat.reduceAdd, List.set_cons_zero, List.set_cons_succ] at FZ
          have y0 := FZ.c 1 0 rfl rfl
          have y1 := FZ.c 1 1 rfl rfl
          have y2 := FZ.c 1 2 rfl rfl
          refine bodyPost_ret (v := .tuple #[.agg #[.slice (some ⟨g, 0, none⟩) sh.length c2, .slice a5 st.length c5, .int .i64 (off + (f : Int) * y)], .int .i64 0]) ?_ rfl ⟨some ⟨g, 0, none⟩, c2, a5, c5, by rw [List.length_set], by rw [List.length_set]; exact FZ.rows⟩
          rw [results_ctW rfl]
          go_simp
  case op17xz =>
    intro K hK
    go_simp
    obtain ⟨Q, hQ⟩ : ∃ zz, w0.heap.size = zz := ⟨_, rfl⟩
    rw [hQ]
    have G1 := FD.box1 hQ [.slice none 0 0, .slice none 0 0, .int .i64 0] 25
    simp only [List.cons_append, List.nil_append] at G1
    obtain ⟨w1, hw1⟩ : ∃ zz, (w0.alloc (.cells #[.slice none 0 0, .slice none 0 0, .int .i64 0] 25)) = zz := ⟨_, rfl⟩
    rw [hw1] at G1 ⊢
    clear hw1 hQ
    refine hK.out _ _ (fun _ => ⟨G1.c 0 0 rfl rfl, G1.c 0 1 rfl rfl, G1.c 0 2 rfl rfl, (G1.bel.cell (p := ⟨gb, ob + m, none⟩) hlb).trans HCB.out⟩) trivial (fun hHeld hHeld1 => ?_)
    replace hHeld := hHeld rfl
    clear hK K
    try simp only [Act.put, List.setIfInBounds_toArray, List.set_cons_zero, List.set_cons_succ]
    refine readyJ (rs := [2]) (by kernel_rfl) (by simp) ?_
    refine (AllJ.cons rfl ?op2x17z AllJ.nil)
    case op2x17z =>
      intro K hK
      go_simp
      go_at_call 51
      refine (clone_any (some ⟨ga, oa, none⟩) c sh w1 (G1.lw 0 rfl) (by have := HL2.out; omega)).mono ?_
      rintro e w2 ⟨v, rfl, hown, hb⟩
      obtain ⟨a2, c2, rfl, _⟩ := own_shape hown
      have G2 := G1.addO hb hown
      simp only [List.cons_append, List.nil_append] at G2
      clear hown hb
      (try go_wp2_with fail)
      refine hK.out _ _ (fun _ => ⟨G2.c 0 0 rfl rfl, G2.c 0 1 rfl rfl, G2.c 0 2 rfl rfl, (G2.bel.cell (p := ⟨gb, ob + m, none⟩) hlb).trans HCB.out⟩) trivial (fun hHeld hHeld1 => ?_)
      replace hHeld := hHeld rfl
      clear hK K
      try simp only [Act.put, List.setIfInBounds_toArray, List.set_cons_zero, List.set_cons_succ]
      refine readyJ (rs := [5]) (by kernel_rfl) (by simp) ?_
      refine (AllJ.cons rfl ?op5x17y2z AllJ.nil)
      case op5x17y2z =>
        intro K hK
        go_simp
        go_at_call 51
        refine (clone_any (some ⟨gb, ob, none⟩) d st w2 (G2.lw 1 rfl) (by have := HL2.out; omega)).mono ?_
        rintro e w3 ⟨v, rfl, hown, hb⟩
        obtain ⟨a5, c5, rfl, _⟩ := own_shape hown
        have G3 := G2.addO hb hown
        simp only [List.cons_append, List.nil_append] at G3
        clear hown hb
        (try go_wp2_with fail)
        refine hK.out _ _ (fun _ => ⟨G3.c 0 0 rfl rfl, G3.c 0 1 rfl rfl, G3.c 0 2 rfl rfl, (G3.bel.cell (p := ⟨gb, ob + m, none⟩) hlb).trans HCB.out⟩) trivial (fun hHeld hHeld1 => ?_)
        replace hHeld := hHeld rfl
        clear hK K
        try simp only [Act.put, List.setIfInBounds_toArray, List.set_cons_zero, List.set_cons_succ]
        refine takeJ (i := 16) (dst := (some 61)) (v := ?_) rfl rfl (by kernel_rfl) (by kernel_rfl) (by kernel_rfl) (by kernel_rfl) (fun _ _ _ h => h) (by rfl) ?hy16n17 hHeld trivial ?rest16n17
        case hy16n17 => (intro W hSw; (try dsimp only at hSw); obtain ⟨s0, s1, s2, s3⟩ := hSw; go_simp; (try with_reducible rfl))
        try simp only [Act.put, List.setIfInBounds_toArray, List.set_cons_zero, List.set_cons_succ]
        refine readyJ (rs := [18]) (by kernel_rfl) (by simp) ?_
        refine (AllJ.cons rfl ?op18x17y2y5y16z AllJ.nil)
        case op18x17y2y5y16z =>
          intro K hK
          have e0 := G3.c 2 0 rfl rfl
          have e1 := G3.c 2 1 rfl rfl
          have e2 := G3.c 2 2 rfl rfl
          have ef0 := G3.f 2 0 rfl rfl
          have ef1 := G3.f 2 1 rfl rfl
          have ef2 := G3.f 2 2 rfl rfl
          go_simp
          have G5 := G3.set 2 rfl (by simp) [.slice a2 sh.length c2, .slice a5 st.length c5, .int .i64 (off + (f : Int) * y)] rfl
          simp only [setL, Nat.reduceAdd, List.set_cons_zero, List.set_cons_succ] at G5
          clear e0 ef0 e1 ef1 e2 ef2
          refine hK.out _ _ (fun _ => ⟨G5.c 0 0 rfl rfl, G5.c 0 1 rfl rfl, G5.c 0 2 rfl rfl, (G5.bel.cell (p := ⟨gb, ob + m, none⟩) hlb).trans HCB.out⟩) trivial (fun hHeld hHeld1 => ?_)
          replace hHeld := hHeld rfl
          clear hK K
          try simp only [Act.put, List.setIfInBounds_toArray, List.set_cons_zero, List.set_cons_succ]
          refine doneJ (by kernel_rfl) ?_
          have F9 := Lib.hid G5
          obtain ⟨V9, hV9⟩ : ∃ zz, (((w3.setCell ⟨Q, 0, none⟩ (.slice a2 sh.length c2)).setCell ⟨Q, 1, none⟩ (.slice a5 st.length c5)).setCell ⟨Q, 2, none⟩ (.int .i64 (off + (f : Int) * y))) = zz := ⟨_, rfl⟩
          rw [hV9] at F9 ⊢
          clear hV9 hHeld hHeld1 F2
          have u1_0 := F9.out.c 1 0 rfl rfl
          have u1_1 := F9.out.c 1 1 rfl rfl
          have u1_2 := F9.out.c 1 2 rfl rfl
          have u2_0 := F9.out.c 2 0 rfl rfl
          have u2_1 := F9.out.c 2 1 rfl rfl
          have u2_2 := F9.out.c 2 2 rfl rfl
          have uf1_0 := F9.out.f 1 0 rfl rfl
          have uf1_1 := F9.out.f 1 1 rfl rfl
          have uf1_2 := F9.out.f 1 2 rfl rfl
          obtain ⟨a0, c0, he, hsh⟩ := own_shape (F9.out.r 0 rfl)
          simp only [Value.slice.injEq] at he
          obtain ⟨rfl, _, rfl⟩ := he
          obtain ⟨g, rfl, _⟩ := hsh.resolve_left (by show ¬ sh.length = 0; omega)
          have hget : (sh.map (Value.int .i64))[m]? = some (.int .i64 sh[m]) := by rw [List.getElem?_map, List.getElem?_eq_getElem hm]; rfl
          obtain ⟨r1, r2⟩ := F9.out.rc 0 m rfl hget
          go_upto_region 7 with fail
          have FP := F9.out.put 0 m rfl (.int .i64 ((t : Int) - (f : Int)))
          simp only [List.set_cons_zero, List.set_cons_succ] at FP
          rw [map_set] at FP
          obtain ⟨V10, hV10⟩ : ∃ zz, V9.setCell ⟨g, m, none⟩ (.int .i64 ((t : Int) - (f : Int))) = zz := ⟨_, rfl⟩
          rw [hV10] at FP ⊢
          clear hV10 r1 r2 hget F9 u1_0 u1_1 u1_2 u2_0 u2_1 u2_2 uf1_0 uf1_1 uf1_2
          have FP9 := Lib.hid FP
          clear FP
          have u1_0 := FP9.out.c 1 0 rfl rfl
          have u1_1 := FP9.out.c 1 1 rfl rfl
          have u1_2 := FP9.out.c 1 2 rfl rfl
          have u2_0 := FP9.out.c 2 0 rfl rfl
          have u2_1 := FP9.out.c 2 1 rfl rfl
          have u2_2 := FP9.out.c 2 2 rfl rfl
          have uf1_0 := FP9.out.f 1 0 rfl rfl
          have uf1_1 := FP9.out.f 1 1 rfl rfl
          have uf1_2 := FP9.out.f 1 2 rfl rfl
          go_wp2
          have FZ := FP9.out.set 1 rfl (by simp) [.slice (some ⟨g, 0, none⟩) sh.length c2, .slice a5 st.length c5, .int .i64 (off + (f : Int) * y)] rfl
          simp only [setL, Nat.reduceAdd, List.set_cons_zero, List.set_cons_succ] at FZ
          have y0 := FZ.c 1 0 rfl rfl
          have y1 := FZ.c 1 1 rfl rfl
          have y2 := FZ.c 1 2 rfl rfl
          refine bodyPost_ret (v := .tuple #[.agg #[.slice (some ⟨g, 0, none⟩) sh.length c2, .slice a5 st.length c5, .int .i64 (off + (f : Int) * y)], .int .i64 0]) ?_ rfl ⟨some ⟨g, 0, none⟩, c2, a5, c5, by rw [List.length_set], by rw [List.length_set]; exact FZ.rows⟩
          rw [results_ctW rfl]
          go_simp
end Go.Proofs.Ytnafbgkfhojamaa
