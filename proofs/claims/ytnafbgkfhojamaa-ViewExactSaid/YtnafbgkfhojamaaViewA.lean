/- Walks: plain views, transposed views. -/
import Derived.Test.YtnafbgkfhojamaaView9
import Derived.Test.YtnafbgkfhojamaaTakeL
set_option linter.unusedVariables false
set_option linter.unusedSimpArgs false
namespace Go.Proofs.Ytnafbgkfhojamaa
open Go.RowKit Go.Rt
/-- A view and an error, handed back. -/
def RetVE (w : World) (sh st : List Int) (off z : Int) (e : Ending) (w' : World) : Prop :=
  ∃ a c b d, e = .returned (.tuple #[.agg #[.slice a sh.length c, .slice b st.length d, .int .i64 off], .int .i64 z]) ∧ Fr w.heap.size w w' [] [] [⟨3, .slice a sh.length c, sh.length, sh.map (Value.int .i64)⟩, ⟨3, .slice b st.length d, st.length, st.map (Value.int .i64)⟩] []
def RetVO (w : World) (sh st : List Int) (off : Int) (e : Ending) (w' : World) : Prop :=
  ∃ a c b d, e = .returned (.agg #[.slice a sh.length c, .slice b st.length d, .int .i64 off]) ∧ Fr w.heap.size w w' [] [] [⟨3, .slice a sh.length c, sh.length, sh.map (Value.int .i64)⟩, ⟨3, .slice b st.length d, st.length, st.map (Value.int .i64)⟩] []
theorem results_ctW {fn : Func} {p u : Tmp} {ty : TypeId} (h : fn.results = #[.cell p ty, .tmp u]) (tmps : Array Value) (P : Program) (w : World) :
    (results fn tmps).run P w = ((asAddr (tmps.getD p undef)).run P w).andThen fun a w₁ => ((loadVar ty a).run P w₁).andThen fun v w₂ => .ok (.tuple #[v, tmps.getD u undef]) w₂ := by
  simp only [results, h]
  simp [Sem.run_bind, Result.andThen]
/-- Numbers in the order of the axes. -/
def permL (xs axs : List Int) : List Int := axs.map fun i => xs[i.toNat]?.getD 0
theorem permL_len (xs axs : List Int) : (permL xs axs).length = axs.length := by simp [permL]
theorem permL_succ (xs axs : List Int) (k : Nat) (hk : k < axs.length) : permL xs (axs.take (k + 1)) = permL xs (axs.take k) ++ [xs[axs[k].toNat]?.getD 0] := by
  unfold permL
  rw [take_snoc axs k hk, List.map_append, List.map_cons, List.map_nil]

set_option maxRecDepth 100000 in
theorem plain_any (a : Option Addr) (c : Nat) (sh : List Int) (w : World) (h : Ints .i64 w w.heap.size a sh) (hg : goodB sh = true) :
    Calls Try.prog 61 #[.slice a sh.length c] w (RetVO w sh (strI sh) 0) := by
  have h4 := (goodB_iff.1 hg).1
  have HH := Lib.hid h
  have HG := Lib.hid hg
  have HSL := Lib.hid (strI_length sh)
  clear h hg
  go_enter Try.func61, Try.ntmps61
  have F1 := Lib.hid ((Fr.start (w := w) (I := [(.i64, a, sh)]) (by intro z hz; simp at hz; subst hz; exact HH.out)).box1 (b := w.heap.size) rfl [.slice none 0 0, .slice none 0 0, .int .i64 0] 25)
  simp only [List.nil_append] at F1
  go_upto_region 1 with fail
  obtain ⟨W1, hW1⟩ : ∃ W1, (w.alloc (.cells #[.slice none 0 0, .slice none 0 0, .int .i64 0] 25)) = W1 := ⟨_, rfl⟩
  rw [hW1] at F1 ⊢
  clear hW1
  go_wp2_with (first | (go_at_call 51; refine (clone_any a c sh W1 (F1.out.lw 0 rfl) (by omega)).mono ?_; rintro e w2 ⟨v, rfl, hown, hb⟩; obtain ⟨a2, c2, rfl, _⟩ := own_shape hown; have F2 := Lib.hid (F1.out.addO hb hown); clear hown hb F1) | (go_at_call 62; refine (steps_any a c sh w2 (F2.out.lw 0 rfl) HG.out).mono ?_; rintro e w3 ⟨v, rfl, hown, hb⟩; obtain ⟨a3, c3, rfl, _⟩ := own_shape hown; rw [HSL.out] at hown ⊢; have F3 := Lib.hid (F2.out.addO hb hown); clear hown hb F2; simp only [List.nil_append, List.cons_append] at F3; have q0 := F3.out.c 0 0 rfl rfl; have q1 := F3.out.c 0 1 rfl rfl; have q2 := F3.out.c 0 2 rfl rfl; have f0 := F3.out.f 0 0 rfl rfl; have f1 := F3.out.f 0 1 rfl rfl; have f2 := F3.out.f 0 2 rfl rfl))
  have FZ := F3.out.set 0 rfl (by simp) [.slice a2 sh.length c2, .slice a3 sh.length c3, .int .i64 0] rfl
  simp only [setL, Nat.reduceAdd, List.set_cons_zero, List.set_cons_succ] at FZ
  have z0 := FZ.c 0 0 rfl rfl
  have z1 := FZ.c 0 1 rfl rfl
  have z2 := FZ.c 0 2 rfl rfl
  refine bodyPost_ret (v := .agg #[.slice a2 sh.length c2, .slice a3 sh.length c3, .int .i64 0]) ?_ rfl ⟨a2, c2, a3, c3, by rw [HSL.out], by rw [HSL.out]; exact FZ.rows⟩
  rw [results_cV rfl]
  go_simp
set_option maxRecDepth 100000 in
theorem of_good (a : Option Addr) (c : Nat) (sh : List Int) (w : World) (h : Ints .i64 w w.heap.size a sh) (hg : goodB sh = true) :
    Calls Try.prog 33 #[.slice a sh.length c] w (RetVE w sh (strI sh) 0 0) := by
  have HH := Lib.hid h
  have hgd := fun W (h : Ints .i64 W W.heap.size a sh) => good_any a c _ sh W h
  rw [hg] at hgd
  have HG := Lib.hid hg
  have HSL := Lib.hid (strI_length sh)
  clear h hg
  go_enter Try.func33, Try.ntmps33
  have F1 := Lib.hid ((Fr.start (w := w) (I := [(.i64, a, sh)]) (by intro z hz; simp at hz; subst hz; exact HH.out)).box1 (b := w.heap.size) rfl [.slice none 0 0, .slice none 0 0, .int .i64 0] 25)
  simp only [List.nil_append] at F1
  go_upto_region 1 with fail
  obtain ⟨W1, hW1⟩ : ∃ W1, (w.alloc (.cells #[.slice none 0 0, .slice none 0 0, .int .i64 0] 25)) = W1 := ⟨_, rfl⟩
  rw [hW1] at F1 ⊢
  clear hW1
  go_wp2_with (first | (go_at_call 54; refine (hgd _ (F1.out.lw 0 rfl)).mono ?_; rintro e w' ⟨rfl, rfl⟩) | (go_at_call 61; refine (plain_any a c sh W1 (F1.out.lw 0 rfl) HG.out).mono ?_; rintro e w2 ⟨a2, c2, a3, c3, rfl, hf⟩; rw [HSL.out] at hf ⊢; have F3 := Lib.hid (F1.out.join hf); clear hf F1; simp only [List.nil_append, List.cons_append] at F3; have q0 := F3.out.c 0 0 rfl rfl; have q1 := F3.out.c 0 1 rfl rfl; have q2 := F3.out.c 0 2 rfl rfl; have f0 := F3.out.f 0 0 rfl rfl; have f1 := F3.out.f 0 1 rfl rfl; have f2 := F3.out.f 0 2 rfl rfl))
  have FZ := F3.out.set 0 rfl (by simp) [.slice a2 sh.length c2, .slice a3 sh.length c3, .int .i64 0] rfl
  simp only [setL, Nat.reduceAdd, List.set_cons_zero, List.set_cons_succ] at FZ
  have z0 := FZ.c 0 0 rfl rfl
  have z1 := FZ.c 0 1 rfl rfl
  have z2 := FZ.c 0 2 rfl rfl
  refine bodyPost_ret (v := .tuple #[.agg #[.slice a2 sh.length c2, .slice a3 sh.length c3, .int .i64 0], .int .i64 0]) ?_ rfl ⟨a2, c2, a3, c3, by rw [HSL.out], by rw [HSL.out]; exact FZ.rows⟩
  rw [results_ctW rfl]
  go_simp
set_option maxRecDepth 100000 in
set_option maxHeartbeats 4000000 in
theorem vtrans_good (a b ax : Option Addr) (c d cx : Nat) (sh st axs : List Int) (off : Int) (w : World) (h : Ints .i64 w w.heap.size a sh) (h2 : Ints .i64 w w.heap.size b st) (h3 : Ints .i64 w w.heap.size ax axs) (hv : viewB sh st off 65536 = true) (hx : axesB axs sh.length = true) :
    Calls Try.prog 25 #[.agg #[.slice a sh.length c, .slice b st.length d, .int .i64 off], .slice ax axs.length cx] w (RetVE w (permL sh axs) (permL st axs) off 0) := by
  have HA := Lib.hid h
  have HB := Lib.hid h2
  have HX := Lib.hid h3
  have hv0 := viewB_iff.1 hv
  have h4 := (goodB_iff.1 hv0.1).1
  have HL2 := Lib.hid hv0.2.1
  have HON := Lib.hid (axesB_once.1 hx)
  have hxl := HON.out.len
  have HXL := Lib.hid hxl
  have hgv := fun W (h : Ints .i64 W W.heap.size a sh) (h2 : Ints .i64 W W.heap.size b st) => vgood_any a b c d W.heap.size sh st off 65536 W h h2 (Nat.le_refl _)
  rw [hv] at hgv
  have hod := fun W (h : Ints .i64 W W.heap.size ax axs) => order_any ax cx W.heap.size axs sh.length W h (Nat.le_refl _) (by omega)
  rw [hx] at hod
  have hN4 : axs.length ≤ 4 := by omega
  clear h h2 h3 hv hx hv0 hxl
  go_enter Try.func25, Try.ntmps25
  have F1 := Lib.hid (((Fr.start (w := w) (I := [(.i64, a, sh), (.i64, b, st), (.i64, ax, axs)]) (by intro z hz; simp at hz; rcases hz with rfl | rfl | rfl; exact HA.out; exact HB.out; exact HX.out)).box1 (b := w.heap.size) rfl [.slice a sh.length c, .slice b st.length d, .int .i64 off] 25).box1 (b := w.heap.size + 1) (by simp) [.slice none 0 0, .slice none 0 0, .int .i64 0] 25)
  simp only [List.nil_append, List.cons_append] at F1
  go_upto_region 1 with fail
  obtain ⟨W1, hW1⟩ : ∃ W1, ((w.alloc (.cells #[.slice a sh.length c, .slice b st.length d, .int .i64 off] 25)).alloc (.cells #[.slice none 0 0, .slice none 0 0, .int .i64 0] 25)) = W1 := ⟨_, rfl⟩
  rw [hW1] at F1 ⊢
  clear hW1
  have c0_0 := F1.out.c 0 0 rfl rfl
  have c0_1 := F1.out.c 0 1 rfl rfl
  have c0_2 := F1.out.c 0 2 rfl rfl
  go_upto_region 5 with (first | (go_at_call 49; refine (hgv _ (F1.out.lw 0 rfl) (F1.out.lw 1 rfl)).mono ?_; rintro e w2 ⟨rfl, hb⟩; have F2 := Lib.hid (F1.out.next hb); clear hb F1 c0_0 c0_1 c0_2; have d0_0 := F2.out.c 0 0 rfl rfl; have d0_1 := F2.out.c 0 1 rfl rfl; have d0_2 := F2.out.c 0 2 rfl rfl) | (go_at_call 58; refine (hod _ (F2.out.lw 2 rfl)).mono ?_; rintro e w3 ⟨rfl, hb⟩; have F3 := Lib.hid (F2.out.next hb); clear hb F2 d0_0 d0_1 d0_2; have e0_0 := F3.out.c 0 0 rfl rfl; have e0_1 := F3.out.c 0 1 rfl rfl; have e0_2 := F3.out.c 0 2 rfl rfl))
  go_upto_region 6 with fail
  obtain ⟨Q, hQ⟩ : ∃ x, w3.heap.size = x := ⟨_, rfl⟩
  rw [hQ]
  have F4 := Lib.hid (((F3.out.addNil 3).addNil 3).box1 (b := Q) hQ [.slice none 0 0, .slice none 0 0, .int .i64 off] 25)
  simp only [List.nil_append, List.cons_append] at F4
  obtain ⟨W4, hW4⟩ : ∃ x, (w3.alloc (.cells #[.slice none 0 0, .slice none 0 0, .int .i64 off] 25)) = x := ⟨_, rfl⟩
  rw [hW4] at F4 ⊢
  clear hW4 hQ F3 hgv hod e0_0 e0_1 e0_2
  go_wp2
  go_loopw [27] (fun i wr => ∃ k : Nat, k ≤ axs.length ∧ i = .int .i64 k ∧ ∃ a1 c1 a2 c2, Hid (Fr w.heap.size w wr [(w.heap.size, [.slice a sh.length c, .slice b st.length d, .int .i64 off]), (w.heap.size + 1, [.slice none 0 0, .slice none 0 0, .int .i64 0]), (Q, [.slice a1 k c1, .slice a2 k c2, .int .i64 off])] [(.i64, a, sh), (.i64, b, st), (.i64, ax, axs)] [⟨3, .slice a1 k c1, k, (permL sh (axs.take k)).map (Value.int .i64)⟩, ⟨3, .slice a2 k c2, k, (permL st (axs.take k)).map (Value.int .i64)⟩] [])) (fun i _ => axs.length - (intOf i).toNat)
  case atStart => exact ⟨0, Nat.zero_le _, rfl, none, 0, none, 0, F4⟩
  case round =>
    clear F4
    obtain ⟨k, hk, rfl, a1, c1, a2, c2, FK⟩ := hrel
    obtain ⟨wk, rfl⟩ : ∃ wk : World, wk = wr := ⟨_, rfl⟩
    by_cases hlt : k < axs.length
    · skip
      have hbd := HON.out.bnd _ (List.getElem_mem hlt)
      have hp1 := permL_succ sh axs k hlt
      have hp2 := permL_succ st axs k hlt
      obtain ⟨_, _, hcX⟩ := FK.out.l 2 rfl
      obtain ⟨gx, ox, rfl, hlx, hcx⟩ := hcX k hlt
      rw [List.getElem?_eq_getElem hlt] at hcx
      simp only [Option.getD_some] at hcx
      obtain ⟨m, hm⟩ : ∃ m : Nat, axs[k] = m := ⟨axs[k].toNat, by omega⟩
      rw [hm] at hbd hp1 hp2 hcx
      rw [Int.toNat_natCast] at hp1 hp2
      have hmS : m < sh.length := by omega
      have hmT : m < st.length := by have := HL2.out; omega
      obtain ⟨_, _, hcA⟩ := FK.out.l 0 rfl
      obtain ⟨_, _, hcB⟩ := FK.out.l 1 rfl
      obtain ⟨ga, oa, rfl, hla, hca⟩ := hcA m hmS
      obtain ⟨gb, ob, rfl, hlb, hcb⟩ := hcB m hmT
      obtain ⟨x, hxe⟩ : ∃ x, sh[m]?.getD 0 = x := ⟨_, rfl⟩
      obtain ⟨y, hye⟩ : ∃ y, st[m]?.getD 0 = y := ⟨_, rfl⟩
      rw [hxe] at hca hp1
      rw [hye] at hcb hp2
      have HP1 := Lib.hid hp1
      have HP2 := Lib.hid hp2
      have HCA := Lib.hid hca
      have HCB := Lib.hid hcb
      have hpl1 := permL_len sh (axs.take k)
      clear hbd hp1 hp2 hcX hm hcA hcB hxe hye hca hcb hpl1
      go_upto_region 9 with fail
      clear hcx
      have HCW : Hid (w.cell? ⟨ga, oa + m, none⟩ = some (.int .i64 x)) := Lib.hid ((FK.out.bel.cell (p := ⟨ga, oa + m, none⟩) hla).symm.trans HCA.out)
      have HDW : Hid (w.cell? ⟨gb, ob + m, none⟩ = some (.int .i64 y)) := Lib.hid ((FK.out.bel.cell (p := ⟨gb, ob + m, none⟩) hlb).symm.trans HCB.out)
      have FD := FK.out.drew
      refine wp_region_J (S := fun W => W.cell? ⟨w.heap.size, 0, none⟩ = some (.slice (some ⟨ga, oa, none⟩) sh.length c) ∧ W.cell? ⟨Q, 0, none⟩ = some (.slice a1 k c1) ∧ W.cell? ⟨Q, 1, none⟩ = some (.slice a2 k c2) ∧ W.cell? ⟨ga, oa + m, none⟩ = some (.int .i64 x)) (S1 := fun W => W.cell? ⟨w.heap.size, 1, none⟩ = some (.slice (some ⟨gb, ob, none⟩) st.length d) ∧ W.cell? ⟨gb, ob + m, none⟩ = some (.int .i64 y)) (L := [19, 21, 18, 20, 11, 12, 13, 14, 15]) (by kernel_rfl) ⟨FD.c 0 0 rfl rfl, FD.c 2 0 rfl rfl, FD.c 2 1 rfl rfl, (FD.bel.cell (p := ⟨ga, oa + m, none⟩) hla).trans HCW.out⟩ ⟨FD.c 0 1 rfl rfl, (FD.bel.cell (p := ⟨gb, ob + m, none⟩) hlb).trans HDW.out⟩ (fun hHeld hHeld1 => ?_)
      obtain ⟨w0, hw0⟩ : ∃ x, wk.drew = x := ⟨_, rfl⟩
      rw [hw0] at FD hHeld hHeld1 ⊢
      clear hw0
      refine takeJ1 (i := 11) (dst := (some 42)) (v := ?_) rfl rfl (by kernel_rfl) (by kernel_rfl) (by kernel_rfl) (by kernel_rfl) (fun _ _ _ h => h) (by rfl) ?hy11n1 hHeld1 ?rest11n1
      case hy11n1 => (intro W hSw; (try dsimp only at hSw); (try obtain ⟨s0, s1, s2, s3⟩ := hSw); (try obtain ⟨s0, s1⟩ := hSw); go_simp; (try with_reducible rfl))
      try simp only [Act.put, List.setIfInBounds_toArray, List.set_cons_zero, List.set_cons_succ]
      refine takeJ1 (i := 12) (dst := (some 43)) (v := ?_) rfl rfl (by kernel_rfl) (by kernel_rfl) (by kernel_rfl) (by kernel_rfl) (fun _ _ _ h => h) (by rfl) ?hy12n2 hHeld1 ?rest12n2
      case hy12n2 => (intro W hSw; (try dsimp only at hSw); (try obtain ⟨s0, s1, s2, s3⟩ := hSw); (try obtain ⟨s0, s1⟩ := hSw); go_simp; (try with_reducible rfl))
      try simp only [Act.put, List.setIfInBounds_toArray, List.set_cons_zero, List.set_cons_succ]
      refine takeJ1 (i := 13) (dst := (some 44)) (v := ?_) rfl rfl (by kernel_rfl) (by kernel_rfl) (by kernel_rfl) (by kernel_rfl) (fun _ _ _ h => h) (by rfl) ?hy13n3 hHeld1 ?rest13n3
      case hy13n3 => (intro W hSw; (try dsimp only at hSw); (try obtain ⟨s0, s1, s2, s3⟩ := hSw); (try obtain ⟨s0, s1⟩ := hSw); go_simp; (try with_reducible rfl))
      try simp only [Act.put, List.setIfInBounds_toArray, List.set_cons_zero, List.set_cons_succ]
      refine takeJ1 (i := 14) (dst := (some 45)) (v := ?_) rfl rfl (by kernel_rfl) (by kernel_rfl) (by kernel_rfl) (by kernel_rfl) (fun _ _ _ h => h) (by rfl) ?hy14n4 hHeld1 ?rest14n4
      case hy14n4 => (intro W hSw; (try dsimp only at hSw); (try obtain ⟨s0, s1, s2, s3⟩ := hSw); (try obtain ⟨s0, s1⟩ := hSw); go_simp; (try with_reducible rfl))
      try simp only [Act.put, List.setIfInBounds_toArray, List.set_cons_zero, List.set_cons_succ]
      refine takeJ1 (i := 15) (dst := (some 46)) (v := ?_) rfl rfl (by kernel_rfl) (by kernel_rfl) (by kernel_rfl) (by kernel_rfl) (fun _ _ _ h => h) (by rfl) ?hy15n5 hHeld1 ?rest15n5
      case hy15n5 => (intro W hSw; (try dsimp only at hSw); (try obtain ⟨s0, s1, s2, s3⟩ := hSw); (try obtain ⟨s0, s1⟩ := hSw); go_simp; (try with_reducible rfl))
      try simp only [Act.put, List.setIfInBounds_toArray, List.set_cons_zero, List.set_cons_succ]
      refine takeJ (i := 0) (dst := (some 31)) (v := ?_) rfl rfl (by kernel_rfl) (by kernel_rfl) (by kernel_rfl) (by kernel_rfl) (fun _ _ _ h => h) (by rfl) ?hy0n6 hHeld hHeld1 ?rest0n6
      case hy0n6 => (intro W hSw; (try dsimp only at hSw); (try obtain ⟨s0, s1, s2, s3⟩ := hSw); (try obtain ⟨s0, s1⟩ := hSw); go_simp; (try with_reducible rfl))
      try simp only [Act.put, List.setIfInBounds_toArray, List.set_cons_zero, List.set_cons_succ]
      refine takeJ (i := 1) (dst := (some 32)) (v := ?_) rfl rfl (by kernel_rfl) (by kernel_rfl) (by kernel_rfl) (by kernel_rfl) (fun _ _ _ h => h) (by rfl) ?hy1n7 hHeld hHeld1 ?rest1n7
      case hy1n7 => (intro W hSw; (try dsimp only at hSw); (try obtain ⟨s0, s1, s2, s3⟩ := hSw); (try obtain ⟨s0, s1⟩ := hSw); go_simp; (try with_reducible rfl))
      try simp only [Act.put, List.setIfInBounds_toArray, List.set_cons_zero, List.set_cons_succ]
      refine takeJ (i := 2) (dst := (some 33)) (v := ?_) rfl rfl (by kernel_rfl) (by kernel_rfl) (by kernel_rfl) (by kernel_rfl) (fun _ _ _ h => h) (by rfl) ?hy2n8 hHeld hHeld1 ?rest2n8
      case hy2n8 => (intro W hSw; (try dsimp only at hSw); (try obtain ⟨s0, s1, s2, s3⟩ := hSw); (try obtain ⟨s0, s1⟩ := hSw); go_simp; (try with_reducible rfl))
      try simp only [Act.put, List.setIfInBounds_toArray, List.set_cons_zero, List.set_cons_succ]
      refine takeJ (i := 3) (dst := (some 34)) (v := ?_) rfl rfl (by kernel_rfl) (by kernel_rfl) (by kernel_rfl) (by kernel_rfl) (fun _ _ _ h => h) (by rfl) ?hy3n9 hHeld hHeld1 ?rest3n9
      case hy3n9 => (intro W hSw; (try dsimp only at hSw); (try obtain ⟨s0, s1, s2, s3⟩ := hSw); (try obtain ⟨s0, s1⟩ := hSw); go_simp; (try with_reducible rfl))
      try simp only [Act.put, List.setIfInBounds_toArray, List.set_cons_zero, List.set_cons_succ]
      refine takeJ (i := 4) (dst := (some 35)) (v := ?_) rfl rfl (by kernel_rfl) (by kernel_rfl) (by kernel_rfl) (by kernel_rfl) (fun _ _ _ h => h) (by rfl) ?hy4n10 hHeld hHeld1 ?rest4n10
      case hy4n10 => (intro W hSw; (try dsimp only at hSw); (try obtain ⟨s0, s1, s2, s3⟩ := hSw); (try obtain ⟨s0, s1⟩ := hSw); go_simp; (try with_reducible rfl))
      try simp only [Act.put, List.setIfInBounds_toArray, List.set_cons_zero, List.set_cons_succ]
      refine takeJ (i := 5) (dst := (some 36)) (v := ?_) rfl rfl (by kernel_rfl) (by kernel_rfl) (by kernel_rfl) (by kernel_rfl) (fun _ _ _ h => h) (by rfl) ?hy5n11 hHeld hHeld1 ?rest5n11
      case hy5n11 => (intro W hSw; (try dsimp only at hSw); (try obtain ⟨s0, s1, s2, s3⟩ := hSw); (try obtain ⟨s0, s1⟩ := hSw); go_simp; (try with_reducible rfl))
      try simp only [Act.put, List.setIfInBounds_toArray, List.set_cons_zero, List.set_cons_succ]
      refine takeJ (i := 6) (dst := (some 37)) (v := ?_) rfl rfl (by kernel_rfl) (by kernel_rfl) (by kernel_rfl) (by kernel_rfl) (fun _ _ _ h => h) (by rfl) ?hy6n12 hHeld hHeld1 ?rest6n12
      case hy6n12 => (intro W hSw; (try dsimp only at hSw); (try obtain ⟨s0, s1, s2, s3⟩ := hSw); (try obtain ⟨s0, s1⟩ := hSw); go_simp; (try with_reducible rfl))
      try simp only [Act.put, List.setIfInBounds_toArray, List.set_cons_zero, List.set_cons_succ]
      refine takeJ (i := 9) (dst := (some 40)) (v := ?_) rfl rfl (by kernel_rfl) (by kernel_rfl) (by kernel_rfl) (by kernel_rfl) (fun _ _ _ h => h) (by rfl) ?hy9n13 hHeld hHeld1 ?rest9n13
      case hy9n13 => (intro W hSw; (try dsimp only at hSw); (try obtain ⟨s0, s1, s2, s3⟩ := hSw); (try obtain ⟨s0, s1⟩ := hSw); go_simp; (try with_reducible rfl))
      try simp only [Act.put, List.setIfInBounds_toArray, List.set_cons_zero, List.set_cons_succ]
      refine takeJ (i := 10) (dst := (some 41)) (v := ?_) rfl rfl (by kernel_rfl) (by kernel_rfl) (by kernel_rfl) (by kernel_rfl) (fun _ _ _ h => h) (by rfl) ?hy10n14 hHeld hHeld1 ?rest10n14
      case hy10n14 => (intro W hSw; (try dsimp only at hSw); (try obtain ⟨s0, s1, s2, s3⟩ := hSw); (try obtain ⟨s0, s1⟩ := hSw); go_simp; (try with_reducible rfl))
      try simp only [Act.put, List.setIfInBounds_toArray, List.set_cons_zero, List.set_cons_succ]
      refine readyJ (rs := [7, 16]) (by kernel_rfl) (by simp) ?_
      refine (AllJ.cons rfl ?op7x0 (AllJ.cons rfl ?op16x0 AllJ.nil))
      case op7x0 =>
        intro K hK
        go_simp
        obtain ⟨B71, hB71⟩ : ∃ x, w0.heap.size = x := ⟨_, rfl⟩
        rw [hB71]
        have G1 := FD.box1 hB71 [.int .i64 x] 3
        simp only [List.cons_append, List.nil_append] at G1
        obtain ⟨w1, hw1⟩ : ∃ zz, (w0.alloc (.cells #[.int .i64 x] 3)) = zz := ⟨_, rfl⟩
        rw [hw1] at G1 ⊢
        clear hw1 hB71
        refine hK.out _ _ (fun _ => ⟨G1.c 0 0 rfl rfl, G1.c 2 0 rfl rfl, G1.c 2 1 rfl rfl, (G1.bel.cell (p := ⟨ga, oa + m, none⟩) hla).trans HCW.out⟩) ⟨G1.c 0 1 rfl rfl, (G1.bel.cell (p := ⟨gb, ob + m, none⟩) hlb).trans HDW.out⟩ (fun hHeld hHeld1 => ?_)
        replace hHeld := hHeld rfl
        clear hK K
        try simp only [Act.put, List.setIfInBounds_toArray, List.set_cons_zero, List.set_cons_succ]
        refine readyJ (rs := [8, 16]) (by kernel_rfl) (by simp) ?_
        refine (AllJ.cons rfl ?op8x17 (AllJ.cons rfl ?op16x17 AllJ.nil))
        case op8x17 =>
          intro K hK
          refine stepApp1 23 3 infoInt Try.underlying23 w.heap.size (.slice a1 k c1) k (permL sh (axs.take k)) x _ ⟨_, 0, none⟩ _ _ rfl rfl rfl (G1.r 0 rfl) rfl (G1.c 3 0 rfl rfl) (by omega) G1.hlo ?_
          intro g8 c8 w2 hown hgr hob
          rw [← HP1.out] at hown
          have G2 := G1.wroteO 0 rfl hgr hown (fun g hg => by rcases hob with h | h; exact .inl (h.trans hg); exact .inr (by injection hg with hg; simp only at hg; omega))
          simp only [List.set_cons_zero, List.set_cons_succ] at G2
          clear hown hgr hob
          refine hK.out _ _ (fun _ => ⟨G2.c 0 0 rfl rfl, G2.c 2 0 rfl rfl, G2.c 2 1 rfl rfl, (G2.bel.cell (p := ⟨ga, oa + m, none⟩) hla).trans HCW.out⟩) ⟨G2.c 0 1 rfl rfl, (G2.bel.cell (p := ⟨gb, ob + m, none⟩) hlb).trans HDW.out⟩ (fun hHeld hHeld1 => ?_)
          replace hHeld := hHeld rfl
          clear hK K
          try simp only [Act.put, List.setIfInBounds_toArray, List.set_cons_zero, List.set_cons_succ]
          refine takeJ1 (i := 18) (dst := (some 49)) (v := ?_) rfl rfl (by kernel_rfl) (by kernel_rfl) (by kernel_rfl) (by kernel_rfl) (fun _ _ _ h => h) (by rfl) ?hy18n15 hHeld1 ?rest18n15
          case hy18n15 => (intro W hSw; (try dsimp only at hSw); (try obtain ⟨s0, s1, s2, s3⟩ := hSw); (try obtain ⟨s0, s1⟩ := hSw); go_simp; (try with_reducible rfl))
          try simp only [Act.put, List.setIfInBounds_toArray, List.set_cons_zero, List.set_cons_succ]
          refine readyJ (rs := [16]) (by kernel_rfl) (by simp) ?_
          refine (AllJ.cons rfl ?op16x37818 AllJ.nil)
          case op16x37818 =>
            intro K hK
            go_simp
            obtain ⟨B164, hB164⟩ : ∃ x, w2.heap.size = x := ⟨_, rfl⟩
            rw [hB164]
            have G4 := G2.box1 hB164 [.int .i64 y] 3
            simp only [List.cons_append, List.nil_append] at G4
            obtain ⟨w4, hw4⟩ : ∃ zz, (w2.alloc (.cells #[.int .i64 y] 3)) = zz := ⟨_, rfl⟩
            rw [hw4] at G4 ⊢
            clear hw4 hB164
            refine hK.out _ _ (fun _ => ⟨G4.c 0 0 rfl rfl, G4.c 2 0 rfl rfl, G4.c 2 1 rfl rfl, (G4.bel.cell (p := ⟨ga, oa + m, none⟩) hla).trans HCW.out⟩) ⟨G4.c 0 1 rfl rfl, (G4.bel.cell (p := ⟨gb, ob + m, none⟩) hlb).trans HDW.out⟩ (fun hHeld hHeld1 => ?_)
            replace hHeld := hHeld rfl
            clear hK K
            try simp only [Act.put, List.setIfInBounds_toArray, List.set_cons_zero, List.set_cons_succ]
            refine readyJ (rs := [17]) (by kernel_rfl) (by simp) ?_
            refine (AllJ.cons rfl ?op17x4781816 AllJ.nil)
            case op17x4781816 =>
              intro K hK
              refine stepApp1 23 3 infoInt Try.underlying23 w.heap.size (.slice a2 k c2) k (permL st (axs.take k)) y _ ⟨_, 0, none⟩ _ _ rfl rfl rfl (G4.r 1 rfl) rfl (G4.c 4 0 rfl rfl) (by omega) G4.hlo ?_
              intro g17 c17 w5 hown hgr hob
              rw [← HP2.out] at hown
              have G5 := G4.wroteO 1 rfl hgr hown (fun g hg => by rcases hob with h | h; exact .inl (h.trans hg); exact .inr (by injection hg with hg; simp only at hg; omega))
              simp only [List.set_cons_zero, List.set_cons_succ] at G5
              clear hown hgr hob
              refine hK.out _ _ (fun _ => ⟨G5.c 0 0 rfl rfl, G5.c 2 0 rfl rfl, G5.c 2 1 rfl rfl, (G5.bel.cell (p := ⟨ga, oa + m, none⟩) hla).trans HCW.out⟩) ⟨G5.c 0 1 rfl rfl, (G5.bel.cell (p := ⟨gb, ob + m, none⟩) hlb).trans HDW.out⟩ (fun hHeld hHeld1 => ?_)
              replace hHeld := hHeld rfl
              clear hK K
              try simp only [Act.put, List.setIfInBounds_toArray, List.set_cons_zero, List.set_cons_succ]
              refine readyJ (rs := [19]) (by kernel_rfl) (by simp) ?_
              refine (AllJ.cons rfl ?op19x578181617 AllJ.nil)
              case op19x578181617 =>
                intro K hK
                have q0 := G5.c 2 0 rfl rfl
                have q1 := G5.f 2 0 rfl rfl
                go_simp
                have G6 := G5.setC 2 0 rfl (by simp) (.slice (some ⟨g8, 0, none⟩) (k + 1) c8)
                simp only [List.set_cons_zero, List.set_cons_succ] at G6
                refine hK.out _ _ (fun hh => by cases hh) ⟨G6.c 0 1 rfl rfl, (G6.bel.cell (p := ⟨gb, ob + m, none⟩) hlb).trans HDW.out⟩ (fun _ hHeld1 => ?_)
                clear q0 q1
                clear hK K
                try simp only [Act.put, List.setIfInBounds_toArray, List.set_cons_zero, List.set_cons_succ]
                refine takeJ1 (i := 20) (dst := (some 50)) (v := ?_) rfl rfl (by kernel_rfl) (by kernel_rfl) (by kernel_rfl) (by kernel_rfl) (fun _ _ _ h => h) (by rfl) ?hy20n16 hHeld1 ?rest20n16
                case hy20n16 => (intro W hSw; (try dsimp only at hSw); (try obtain ⟨s0, s1, s2, s3⟩ := hSw); (try obtain ⟨s0, s1⟩ := hSw); go_simp; (try with_reducible rfl))
                try simp only [Act.put, List.setIfInBounds_toArray, List.set_cons_zero, List.set_cons_succ]
                refine readyJ (rs := [21]) (by kernel_rfl) (by simp) ?_
                refine (AllJ.cons rfl ?op21x7781816171920 AllJ.nil)
                case op21x7781816171920 =>
                  intro K hK
                  have q0 := G6.c 2 1 rfl rfl
                  have q1 := G6.f 2 1 rfl rfl
                  go_simp
                  have G8 := G6.setC 2 1 rfl (by simp) (.slice (some ⟨g17, 0, none⟩) (k + 1) c17)
                  simp only [List.set_cons_zero, List.set_cons_succ] at G8
                  refine hK.out _ _ (fun hh => by cases hh) ⟨G8.c 0 1 rfl rfl, (G8.bel.cell (p := ⟨gb, ob + m, none⟩) hlb).trans HDW.out⟩ (fun _ hHeld1 => ?_)
                  clear q0 q1
                  clear hK K
                  try simp only [Act.put, List.setIfInBounds_toArray, List.set_cons_zero, List.set_cons_succ]
                  refine doneJ (by kernel_rfl) ?_
                  have F9 := Lib.hid G8
                  skip
                  go_wp2
                  go_roundw
                  case rel => exact ⟨k + 1, by omega, by go_num, some ⟨g8, 0, none⟩, c8, some ⟨g17, 0, none⟩, c17, Lib.hid (F9.out.less (by simp) (List.Sublist.refl _) (List.Sublist.refl _) (List.Sublist.refl _))⟩
                  case measure => simp [intOf]; omega
        case op16x17 =>
          intro K hK
          go_simp
          obtain ⟨B162, hB162⟩ : ∃ x, w1.heap.size = x := ⟨_, rfl⟩
          rw [hB162]
          have G2 := G1.box1 hB162 [.int .i64 y] 3
          simp only [List.cons_append, List.nil_append] at G2
          obtain ⟨w2, hw2⟩ : ∃ zz, (w1.alloc (.cells #[.int .i64 y] 3)) = zz := ⟨_, rfl⟩
          rw [hw2] at G2 ⊢
          clear hw2 hB162
          refine hK.out _ _ (fun _ => ⟨G2.c 0 0 rfl rfl, G2.c 2 0 rfl rfl, G2.c 2 1 rfl rfl, (G2.bel.cell (p := ⟨ga, oa + m, none⟩) hla).trans HCW.out⟩) ⟨G2.c 0 1 rfl rfl, (G2.bel.cell (p := ⟨gb, ob + m, none⟩) hlb).trans HDW.out⟩ (fun hHeld hHeld1 => ?_)
          replace hHeld := hHeld rfl
          clear hK K
          try simp only [Act.put, List.setIfInBounds_toArray, List.set_cons_zero, List.set_cons_succ]
          refine readyJ (rs := [8]) (by kernel_rfl) (by simp) ?_
          refine (AllJ.cons rfl ?op8x2716 AllJ.nil)
          case op8x2716 =>
            intro K hK
            refine stepApp1 23 3 infoInt Try.underlying23 w.heap.size (.slice a1 k c1) k (permL sh (axs.take k)) x _ ⟨_, 0, none⟩ _ _ rfl rfl rfl (G2.r 0 rfl) rfl (G2.c 3 0 rfl rfl) (by omega) G2.hlo ?_
            intro g8 c8 w3 hown hgr hob
            rw [← HP1.out] at hown
            have G3 := G2.wroteO 0 rfl hgr hown (fun g hg => by rcases hob with h | h; exact .inl (h.trans hg); exact .inr (by injection hg with hg; simp only at hg; omega))
            simp only [List.set_cons_zero, List.set_cons_succ] at G3
            clear hown hgr hob
            refine hK.out _ _ (fun _ => ⟨G3.c 0 0 rfl rfl, G3.c 2 0 rfl rfl, G3.c 2 1 rfl rfl, (G3.bel.cell (p := ⟨ga, oa + m, none⟩) hla).trans HCW.out⟩) ⟨G3.c 0 1 rfl rfl, (G3.bel.cell (p := ⟨gb, ob + m, none⟩) hlb).trans HDW.out⟩ (fun hHeld hHeld1 => ?_)
            replace hHeld := hHeld rfl
            clear hK K
            try simp only [Act.put, List.setIfInBounds_toArray, List.set_cons_zero, List.set_cons_succ]
            refine takeJ1 (i := 18) (dst := (some 49)) (v := ?_) rfl rfl (by kernel_rfl) (by kernel_rfl) (by kernel_rfl) (by kernel_rfl) (fun _ _ _ h => h) (by rfl) ?hy18n17 hHeld1 ?rest18n17
            case hy18n17 => (intro W hSw; (try dsimp only at hSw); (try obtain ⟨s0, s1, s2, s3⟩ := hSw); (try obtain ⟨s0, s1⟩ := hSw); go_simp; (try with_reducible rfl))
            try simp only [Act.put, List.setIfInBounds_toArray, List.set_cons_zero, List.set_cons_succ]
            refine readyJ (rs := [17]) (by kernel_rfl) (by simp) ?_
            refine (AllJ.cons rfl ?op17x4716818 AllJ.nil)
            case op17x4716818 =>
              intro K hK
              refine stepApp1 23 3 infoInt Try.underlying23 w.heap.size (.slice a2 k c2) k (permL st (axs.take k)) y _ ⟨_, 0, none⟩ _ _ rfl rfl rfl (G3.r 1 rfl) rfl (G3.c 4 0 rfl rfl) (by omega) G3.hlo ?_
              intro g17 c17 w5 hown hgr hob
              rw [← HP2.out] at hown
              have G5 := G3.wroteO 1 rfl hgr hown (fun g hg => by rcases hob with h | h; exact .inl (h.trans hg); exact .inr (by injection hg with hg; simp only at hg; omega))
              simp only [List.set_cons_zero, List.set_cons_succ] at G5
              clear hown hgr hob
              refine hK.out _ _ (fun _ => ⟨G5.c 0 0 rfl rfl, G5.c 2 0 rfl rfl, G5.c 2 1 rfl rfl, (G5.bel.cell (p := ⟨ga, oa + m, none⟩) hla).trans HCW.out⟩) ⟨G5.c 0 1 rfl rfl, (G5.bel.cell (p := ⟨gb, ob + m, none⟩) hlb).trans HDW.out⟩ (fun hHeld hHeld1 => ?_)
              replace hHeld := hHeld rfl
              clear hK K
              try simp only [Act.put, List.setIfInBounds_toArray, List.set_cons_zero, List.set_cons_succ]
              refine readyJ (rs := [19]) (by kernel_rfl) (by simp) ?_
              refine (AllJ.cons rfl ?op19x571681817 AllJ.nil)
              case op19x571681817 =>
                intro K hK
                have q0 := G5.c 2 0 rfl rfl
                have q1 := G5.f 2 0 rfl rfl
                go_simp
                have G6 := G5.setC 2 0 rfl (by simp) (.slice (some ⟨g8, 0, none⟩) (k + 1) c8)
                simp only [List.set_cons_zero, List.set_cons_succ] at G6
                refine hK.out _ _ (fun hh => by cases hh) ⟨G6.c 0 1 rfl rfl, (G6.bel.cell (p := ⟨gb, ob + m, none⟩) hlb).trans HDW.out⟩ (fun _ hHeld1 => ?_)
                clear q0 q1
                clear hK K
                try simp only [Act.put, List.setIfInBounds_toArray, List.set_cons_zero, List.set_cons_succ]
                refine takeJ1 (i := 20) (dst := (some 50)) (v := ?_) rfl rfl (by kernel_rfl) (by kernel_rfl) (by kernel_rfl) (by kernel_rfl) (fun _ _ _ h => h) (by rfl) ?hy20n18 hHeld1 ?rest20n18
                case hy20n18 => (intro W hSw; (try dsimp only at hSw); (try obtain ⟨s0, s1, s2, s3⟩ := hSw); (try obtain ⟨s0, s1⟩ := hSw); go_simp; (try with_reducible rfl))
                try simp only [Act.put, List.setIfInBounds_toArray, List.set_cons_zero, List.set_cons_succ]
                refine readyJ (rs := [21]) (by kernel_rfl) (by simp) ?_
                refine (AllJ.cons rfl ?op21x7716818171920 AllJ.nil)
                case op21x7716818171920 =>
                  intro K hK
                  have q0 := G6.c 2 1 rfl rfl
                  have q1 := G6.f 2 1 rfl rfl
                  go_simp
                  have G8 := G6.setC 2 1 rfl (by simp) (.slice (some ⟨g17, 0, none⟩) (k + 1) c17)
                  simp only [List.set_cons_zero, List.set_cons_succ] at G8
                  refine hK.out _ _ (fun hh => by cases hh) ⟨G8.c 0 1 rfl rfl, (G8.bel.cell (p := ⟨gb, ob + m, none⟩) hlb).trans HDW.out⟩ (fun _ hHeld1 => ?_)
                  clear q0 q1
                  clear hK K
                  try simp only [Act.put, List.setIfInBounds_toArray, List.set_cons_zero, List.set_cons_succ]
                  refine doneJ (by kernel_rfl) ?_
                  have F9 := Lib.hid G8
                  skip
                  go_wp2
                  go_roundw
                  case rel => exact ⟨k + 1, by omega, by go_num, some ⟨g8, 0, none⟩, c8, some ⟨g17, 0, none⟩, c17, Lib.hid (F9.out.less (by simp) (List.Sublist.refl _) (List.Sublist.refl _) (List.Sublist.refl _))⟩
                  case measure => simp [intOf]; omega
      case op16x0 =>
        intro K hK
        go_simp
        obtain ⟨B161, hB161⟩ : ∃ x, w0.heap.size = x := ⟨_, rfl⟩
        rw [hB161]
        have G1 := FD.box1 hB161 [.int .i64 y] 3
        simp only [List.cons_append, List.nil_append] at G1
        obtain ⟨w1, hw1⟩ : ∃ zz, (w0.alloc (.cells #[.int .i64 y] 3)) = zz := ⟨_, rfl⟩
        rw [hw1] at G1 ⊢
        clear hw1 hB161
        refine hK.out _ _ (fun _ => ⟨G1.c 0 0 rfl rfl, G1.c 2 0 rfl rfl, G1.c 2 1 rfl rfl, (G1.bel.cell (p := ⟨ga, oa + m, none⟩) hla).trans HCW.out⟩) ⟨G1.c 0 1 rfl rfl, (G1.bel.cell (p := ⟨gb, ob + m, none⟩) hlb).trans HDW.out⟩ (fun hHeld hHeld1 => ?_)
        replace hHeld := hHeld rfl
        clear hK K
        try simp only [Act.put, List.setIfInBounds_toArray, List.set_cons_zero, List.set_cons_succ]
        refine readyJ (rs := [7]) (by kernel_rfl) (by simp) ?_
        refine (AllJ.cons rfl ?op7x116 AllJ.nil)
        case op7x116 =>
          intro K hK
          go_simp
          obtain ⟨B72, hB72⟩ : ∃ x, w1.heap.size = x := ⟨_, rfl⟩
          rw [hB72]
          have G2 := G1.box1 hB72 [.int .i64 x] 3
          simp only [List.cons_append, List.nil_append] at G2
          obtain ⟨w2, hw2⟩ : ∃ zz, (w1.alloc (.cells #[.int .i64 x] 3)) = zz := ⟨_, rfl⟩
          rw [hw2] at G2 ⊢
          clear hw2 hB72
          refine hK.out _ _ (fun _ => ⟨G2.c 0 0 rfl rfl, G2.c 2 0 rfl rfl, G2.c 2 1 rfl rfl, (G2.bel.cell (p := ⟨ga, oa + m, none⟩) hla).trans HCW.out⟩) ⟨G2.c 0 1 rfl rfl, (G2.bel.cell (p := ⟨gb, ob + m, none⟩) hlb).trans HDW.out⟩ (fun hHeld hHeld1 => ?_)
          replace hHeld := hHeld rfl
          clear hK K
          try simp only [Act.put, List.setIfInBounds_toArray, List.set_cons_zero, List.set_cons_succ]
          refine readyJ (rs := [8]) (by kernel_rfl) (by simp) ?_
          refine (AllJ.cons rfl ?op8x2167 AllJ.nil)
          case op8x2167 =>
            intro K hK
            refine stepApp1 23 3 infoInt Try.underlying23 w.heap.size (.slice a1 k c1) k (permL sh (axs.take k)) x _ ⟨_, 0, none⟩ _ _ rfl rfl rfl (G2.r 0 rfl) rfl (G2.c 4 0 rfl rfl) (by omega) G2.hlo ?_
            intro g8 c8 w3 hown hgr hob
            rw [← HP1.out] at hown
            have G3 := G2.wroteO 0 rfl hgr hown (fun g hg => by rcases hob with h | h; exact .inl (h.trans hg); exact .inr (by injection hg with hg; simp only at hg; omega))
            simp only [List.set_cons_zero, List.set_cons_succ] at G3
            clear hown hgr hob
            refine hK.out _ _ (fun _ => ⟨G3.c 0 0 rfl rfl, G3.c 2 0 rfl rfl, G3.c 2 1 rfl rfl, (G3.bel.cell (p := ⟨ga, oa + m, none⟩) hla).trans HCW.out⟩) ⟨G3.c 0 1 rfl rfl, (G3.bel.cell (p := ⟨gb, ob + m, none⟩) hlb).trans HDW.out⟩ (fun hHeld hHeld1 => ?_)
            replace hHeld := hHeld rfl
            clear hK K
            try simp only [Act.put, List.setIfInBounds_toArray, List.set_cons_zero, List.set_cons_succ]
            refine takeJ1 (i := 18) (dst := (some 49)) (v := ?_) rfl rfl (by kernel_rfl) (by kernel_rfl) (by kernel_rfl) (by kernel_rfl) (fun _ _ _ h => h) (by rfl) ?hy18n19 hHeld1 ?rest18n19
            case hy18n19 => (intro W hSw; (try dsimp only at hSw); (try obtain ⟨s0, s1, s2, s3⟩ := hSw); (try obtain ⟨s0, s1⟩ := hSw); go_simp; (try with_reducible rfl))
            try simp only [Act.put, List.setIfInBounds_toArray, List.set_cons_zero, List.set_cons_succ]
            refine readyJ (rs := [17]) (by kernel_rfl) (by simp) ?_
            refine (AllJ.cons rfl ?op17x4167818 AllJ.nil)
            case op17x4167818 =>
              intro K hK
              refine stepApp1 23 3 infoInt Try.underlying23 w.heap.size (.slice a2 k c2) k (permL st (axs.take k)) y _ ⟨_, 0, none⟩ _ _ rfl rfl rfl (G3.r 1 rfl) rfl (G3.c 3 0 rfl rfl) (by omega) G3.hlo ?_
              intro g17 c17 w5 hown hgr hob
              rw [← HP2.out] at hown
              have G5 := G3.wroteO 1 rfl hgr hown (fun g hg => by rcases hob with h | h; exact .inl (h.trans hg); exact .inr (by injection hg with hg; simp only at hg; omega))
              simp only [List.set_cons_zero, List.set_cons_succ] at G5
              clear hown hgr hob
              refine hK.out _ _ (fun _ => ⟨G5.c 0 0 rfl rfl, G5.c 2 0 rfl rfl, G5.c 2 1 rfl rfl, (G5.bel.cell (p := ⟨ga, oa + m, none⟩) hla).trans HCW.out⟩) ⟨G5.c 0 1 rfl rfl, (G5.bel.cell (p := ⟨gb, ob + m, none⟩) hlb).trans HDW.out⟩ (fun hHeld hHeld1 => ?_)
              replace hHeld := hHeld rfl
              clear hK K
              try simp only [Act.put, List.setIfInBounds_toArray, List.set_cons_zero, List.set_cons_succ]
              refine readyJ (rs := [19]) (by kernel_rfl) (by simp) ?_
              refine (AllJ.cons rfl ?op19x516781817 AllJ.nil)
              case op19x516781817 =>
                intro K hK
                have q0 := G5.c 2 0 rfl rfl
                have q1 := G5.f 2 0 rfl rfl
                go_simp
                have G6 := G5.setC 2 0 rfl (by simp) (.slice (some ⟨g8, 0, none⟩) (k + 1) c8)
                simp only [List.set_cons_zero, List.set_cons_succ] at G6
                refine hK.out _ _ (fun hh => by cases hh) ⟨G6.c 0 1 rfl rfl, (G6.bel.cell (p := ⟨gb, ob + m, none⟩) hlb).trans HDW.out⟩ (fun _ hHeld1 => ?_)
                clear q0 q1
                clear hK K
                try simp only [Act.put, List.setIfInBounds_toArray, List.set_cons_zero, List.set_cons_succ]
                refine takeJ1 (i := 20) (dst := (some 50)) (v := ?_) rfl rfl (by kernel_rfl) (by kernel_rfl) (by kernel_rfl) (by kernel_rfl) (fun _ _ _ h => h) (by rfl) ?hy20n20 hHeld1 ?rest20n20
                case hy20n20 => (intro W hSw; (try dsimp only at hSw); (try obtain ⟨s0, s1, s2, s3⟩ := hSw); (try obtain ⟨s0, s1⟩ := hSw); go_simp; (try with_reducible rfl))
                try simp only [Act.put, List.setIfInBounds_toArray, List.set_cons_zero, List.set_cons_succ]
                refine readyJ (rs := [21]) (by kernel_rfl) (by simp) ?_
                refine (AllJ.cons rfl ?op21x7167818171920 AllJ.nil)
                case op21x7167818171920 =>
                  intro K hK
                  have q0 := G6.c 2 1 rfl rfl
                  have q1 := G6.f 2 1 rfl rfl
                  go_simp
                  have G8 := G6.setC 2 1 rfl (by simp) (.slice (some ⟨g17, 0, none⟩) (k + 1) c17)
                  simp only [List.set_cons_zero, List.set_cons_succ] at G8
                  refine hK.out _ _ (fun hh => by cases hh) ⟨G8.c 0 1 rfl rfl, (G8.bel.cell (p := ⟨gb, ob + m, none⟩) hlb).trans HDW.out⟩ (fun _ hHeld1 => ?_)
                  clear q0 q1
                  clear hK K
                  try simp only [Act.put, List.setIfInBounds_toArray, List.set_cons_zero, List.set_cons_succ]
                  refine doneJ (by kernel_rfl) ?_
                  have F9 := Lib.hid G8
                  skip
                  go_wp2
                  go_roundw
                  case rel => exact ⟨k + 1, by omega, by go_num, some ⟨g8, 0, none⟩, c8, some ⟨g17, 0, none⟩, c17, Lib.hid (F9.out.less (by simp) (List.Sublist.refl _) (List.Sublist.refl _) (List.Sublist.refl _))⟩
                  case measure => simp [intOf]; omega
    · obtain rfl : k = axs.length := by omega
      have z1_0 := FK.out.c 1 0 rfl rfl
      have z1_1 := FK.out.c 1 1 rfl rfl
      have z1_2 := FK.out.c 1 2 rfl rfl
      have z2_0 := FK.out.c 2 0 rfl rfl
      have z2_1 := FK.out.c 2 1 rfl rfl
      have z2_2 := FK.out.c 2 2 rfl rfl
      have zf1_0 := FK.out.f 1 0 rfl rfl
      have zf1_1 := FK.out.f 1 1 rfl rfl
      have zf1_2 := FK.out.f 1 2 rfl rfl
      go_wp2
      have FZ := FK.out.set 1 rfl (by simp) [.slice a1 axs.length c1, .slice a2 axs.length c2, .int .i64 off] rfl
      simp only [setL, Nat.reduceAdd, List.set_cons_zero, List.set_cons_succ, List.take_length] at FZ
      have y0 := FZ.c 1 0 rfl rfl
      have y1 := FZ.c 1 1 rfl rfl
      have y2 := FZ.c 1 2 rfl rfl
      refine bodyPost_ret (v := .tuple #[.agg #[.slice a1 axs.length c1, .slice a2 axs.length c2, .int .i64 off], .int .i64 0]) ?_ rfl ⟨a1, c1, a2, c2, by rw [permL_len, permL_len], by rw [permL_len, permL_len]; exact FZ.rows⟩
      rw [results_ctW rfl]
      go_simp
end Go.Proofs.Ytnafbgkfhojamaa
