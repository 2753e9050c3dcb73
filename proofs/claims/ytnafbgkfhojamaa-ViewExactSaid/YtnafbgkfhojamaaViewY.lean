/- A view copied, whatever its strides; asks of which no part takes more than an address space. -/
import Derived.Test.YtnafbgkfhojamaaViewX
import Derived.Test.YtnafbgkfhojamaaSized
set_option linter.unusedVariables false
set_option linter.unusedSimpArgs false
namespace Go.Proofs.Ytnafbgkfhojamaa
open Go.RowKit Go.Rt Go.ChangeShapes Go.WideShapes
theorem bytesInt7 : Try.prog.bytesOf 3 = 8 := by kernel_rfl
structure AsksUp (w : World) (hi : Nat) (q : Option Addr) (n : Nat) : Prop where
  len : n ≤ 9223372036854775807
  at_ : ∀ i, i < n → ∃ b0 o_, q = some ⟨b0, o_, none⟩ ∧ ∃ a b ad ax as_ tp tq c d cd cx cs cp cq sh st data axs ss tsh tys off p1 p2 p3, AskAt w hi b0 (o_ + i * 11) a b ad ax as_ tp tq c d cd cx cs cp cq sh st data axs ss tsh tys off p1 p2 p3 ∧ st.length ≤ 17592186043904
theorem frNe {lo : Nat} {w wr : World} {B : List (Nat × List Value)} {I : List (IntKind × Option Addr × List Int)} {O : List Row} {M : List (Nat × Obj)} (h : Fr lo w wr B I O M) (i j : Nat) (hij : i < j) {q r : Row} (hi : O[i]? = some q) (hj : O[j]? = some r) : ∀ g, q.v.ownBlock = some g → r.v.ownBlock ≠ some g := by
  obtain ⟨h1, e1⟩ := List.getElem?_eq_some_iff.1 hi
  obtain ⟨h2, e2⟩ := List.getElem?_eq_some_iff.1 hj
  have := List.pairwise_iff_getElem.1 h.apO i j h1 h2 hij
  rw [e1, e2] at this
  exact this
theorem sl_yes {sh st : List Int} {off m f t : Int} (h : slZ sh st off m f t = 0) : viewB sh st off 65536 = true ∧ slB sh m f t = true := by
  unfold slZ at h
  split at h
  · split at h
    · exact ⟨by assumption, by assumption⟩
    · exact absurd h (by decide)
  · exact absurd h (by decide)
theorem slice_wf {sh st : List Int} {off m f t : Int} (h : viewB sh st off 65536 = true ∧ slB sh m f t = true) (hw : ∀ x ∈ sh, (Lit.int .i64 x).wf = true) : ∀ x ∈ sh.set m.toNat (t - f), (Lit.int .i64 x).wf = true := by
  intro x hx
  rcases List.mem_or_eq_of_mem_set hx with h9 | h9
  · exact hw x h9
  · have h2 := h.2
    unfold slB at h2
    simp only [Bool.and_eq_true, decide_eq_true_eq] at h2
    obtain ⟨s0, s1, s2, s3, s4⟩ := h2
    obtain ⟨k, rfl⟩ : ∃ k : Nat, m = k := ⟨m.toNat, by omega⟩
    rw [Int.toNat_natCast] at s4
    have hk : k < sh.length := by omega
    have := (goodB_dims (viewB_iff.1 h.1).1).at hk
    rw [List.getElem?_eq_getElem hk, Option.getD_some] at s4
    rw [h9]
    exact wf_i64_iff.2 ⟨by omega, by omega⟩
theorem sl_len {sh st : List Int} {off m f t z : Int} (h : slZ sh st off m f t = z) (hl : sh.length ≤ 10) : (okL z st).length ≤ 100000 := by
  unfold okL
  split
  · have := (viewB_iff.1 (sl_yes (h.trans (by assumption))).1).2.1
    omega
  · simp
theorem widL_wf {sh st s : List Int} (h : ∀ x ∈ st, (Lit.int .i64 x).wf = true) : ∀ x ∈ widL sh st s, (Lit.int .i64 x).wf = true := by
  intro x hx
  obtain ⟨i, _, rfl⟩ := List.mem_map.1 hx
  split
  · unfold widI
    split
    · exact getD_wf h _
    · exact wf_i64_iff.2 ⟨by decide, by decide⟩
  · exact wf_i64_iff.2 ⟨by decide, by decide⟩
theorem strI_wf {s : List Int} (h : goodB s = true) : ∀ x ∈ strI s, (Lit.int .i64 x).wf = true := wf_dims fun x hx => by have := strI_mem (goodB_dims h) (goodB_prod h).2 x hx; omega
theorem permL_wf7 {xs axs : List Int} (h : ∀ x ∈ xs, (Lit.int .i64 x).wf = true) : ∀ x ∈ permL xs axs, (Lit.int .i64 x).wf = true := fun x hx => by
  obtain ⟨i, _, rfl⟩ := List.mem_map.1 hx
  exact getD_wf h _
theorem rs_good {sh st s : List Int} {off : Int} (h : rsZ sh st off s = 0) : goodB s = true := by
  unfold rsZ at h
  split at h
  · have h2 : (viewB sh st off 65536 && goodB s) = true := by assumption
    rw [Bool.and_eq_true] at h2
    exact h2.2
  · exact absurd h (by decide)
theorem of_good_ {s : List Int} (h : ofZ s = 0) : goodB s = true := by
  unfold ofZ at h
  split at h
  · assumption
  · exact absurd h (by decide)
set_option maxRecDepth 100000 in
set_option maxHeartbeats 1000000 in
theorem copyViewL_any (a b : Option Addr) (c d : Nat) (sh st : List Int) (off : Int) (w : World) (h1 : Ints .i64 w w.heap.size a sh) (h2 : Ints .i64 w w.heap.size b st) (hn1 : sh.length ≤ 17592186044415) (hn2 : st.length ≤ 17592186044415) :
    Calls Try.prog 35 #[.agg #[.slice a sh.length c, .slice b st.length d, .int .i64 off]] w (RetVO w sh st off) := by
  have HA := Lib.hid h1
  have HB := Lib.hid h2
  clear h1 h2
  go_enter Try.func35, Try.ntmps35
  have F1 := Lib.hid (((Fr.start (w := w) (I := [(.i64, a, sh), (.i64, b, st)]) (by intro z hz; simp at hz; rcases hz with rfl | rfl; exact HA.out; exact HB.out)).box1 (b := w.heap.size) rfl [.slice a sh.length c, .slice b st.length d, .int .i64 off] 25).box1 (b := w.heap.size + 1) (by simp) [.slice none 0 0, .slice none 0 0, .int .i64 0] 25)
  simp only [List.nil_append, List.cons_append] at F1
  go_upto_region 1 with fail
  obtain ⟨W1, hW1⟩ : ∃ W1, ((w.alloc (.cells #[.slice a sh.length c, .slice b st.length d, .int .i64 off] 25)).alloc (.cells #[.slice none 0 0, .slice none 0 0, .int .i64 0] 25)) = W1 := ⟨_, rfl⟩
  rw [hW1] at F1 ⊢
  clear hW1
  have c0_0 := F1.out.c 0 0 rfl rfl
  have c0_1 := F1.out.c 0 1 rfl rfl
  have c0_2 := F1.out.c 0 2 rfl rfl
  go_upto_region 2 with fail
  obtain ⟨Q, hQ⟩ : ∃ x, W1.heap.size = x := ⟨_, rfl⟩
  rw [hQ]
  have F2 := Lib.hid (F1.out.box1 (b := Q) hQ [.slice a sh.length c, .slice b st.length d, .int .i64 off] 25)
  simp only [List.nil_append, List.cons_append] at F2
  obtain ⟨W2, hW2⟩ : ∃ x, (W1.alloc (.cells #[.slice a sh.length c, .slice b st.length d, .int .i64 off] 25)) = x := ⟨_, rfl⟩
  rw [hW2] at F2 ⊢
  clear hW2 hQ F1 c0_0 c0_1 c0_2
  have c0_0 := F2.out.c 0 0 rfl rfl
  have c0_1 := F2.out.c 0 1 rfl rfl
  have c0_2 := F2.out.c 0 2 rfl rfl
  have c2_0 := F2.out.c 2 0 rfl rfl
  have c2_1 := F2.out.c 2 1 rfl rfl
  have c2_2 := F2.out.c 2 2 rfl rfl
  have cf2_0 := F2.out.f 2 0 rfl rfl
  have cf2_1 := F2.out.f 2 1 rfl rfl
  have cf2_2 := F2.out.f 2 2 rfl rfl
  go_upto_region 3 with (go_at_call 46; refine (copyNumbers_any a c sh W2 (F2.out.lw 0 rfl) (by omega)).mono ?_; rintro e w3 ⟨v, rfl, hown, hb⟩; obtain ⟨a3, c3, rfl, _⟩ := own_shape hown; have F3 := Lib.hid (F2.out.addO hb hown); clear hown hb F2 c0_0 c0_1 c0_2 c2_0 c2_1 c2_2 cf2_0 cf2_1 cf2_2; have d0_0 := F3.out.c 0 0 rfl rfl; have d0_1 := F3.out.c 0 1 rfl rfl; have d0_2 := F3.out.c 0 2 rfl rfl; have d2_0 := F3.out.c 2 0 rfl rfl; have d2_1 := F3.out.c 2 1 rfl rfl; have d2_2 := F3.out.c 2 2 rfl rfl; have df2_0 := F3.out.f 2 0 rfl rfl; have df2_1 := F3.out.f 2 1 rfl rfl; have df2_2 := F3.out.f 2 2 rfl rfl)
  have F4 := Lib.hid (F3.out.setC 2 0 rfl (by simp) (.slice a3 sh.length c3))
  simp only [List.set_cons_zero, List.set_cons_succ, List.nil_append] at F4
  obtain ⟨W4, hW4⟩ : ∃ x, w3.setCell ⟨Q, 0, none⟩ (.slice a3 sh.length c3) = x := ⟨_, rfl⟩
  rw [hW4] at F4 ⊢
  clear hW4 F3 d0_0 d0_1 d0_2 d2_0 d2_1 d2_2 df2_0 df2_1 df2_2
  have c0_0 := F4.out.c 0 0 rfl rfl
  have c0_1 := F4.out.c 0 1 rfl rfl
  have c0_2 := F4.out.c 0 2 rfl rfl
  have c2_0 := F4.out.c 2 0 rfl rfl
  have c2_1 := F4.out.c 2 1 rfl rfl
  have c2_2 := F4.out.c 2 2 rfl rfl
  have cf2_0 := F4.out.f 2 0 rfl rfl
  have cf2_1 := F4.out.f 2 1 rfl rfl
  have cf2_2 := F4.out.f 2 2 rfl rfl
  go_upto_region 4 with (go_at_call 46; refine (copyNumbers_any b d st W4 (F4.out.lw 1 rfl) (by omega)).mono ?_; rintro e w5 ⟨v, rfl, hown, hb⟩; obtain ⟨a5, c5, rfl, _⟩ := own_shape hown; have F5 := Lib.hid (F4.out.addO hb hown); clear hown hb F4 c0_0 c0_1 c0_2 c2_0 c2_1 c2_2 cf2_0 cf2_1 cf2_2; have d0_0 := F5.out.c 0 0 rfl rfl; have d0_1 := F5.out.c 0 1 rfl rfl; have d0_2 := F5.out.c 0 2 rfl rfl; have d2_0 := F5.out.c 2 0 rfl rfl; have d2_1 := F5.out.c 2 1 rfl rfl; have d2_2 := F5.out.c 2 2 rfl rfl; have df2_0 := F5.out.f 2 0 rfl rfl; have df2_1 := F5.out.f 2 1 rfl rfl; have df2_2 := F5.out.f 2 2 rfl rfl)
  have F6 := Lib.hid (F5.out.setC 2 1 rfl (by simp) (.slice a5 st.length c5))
  simp only [List.set_cons_zero, List.set_cons_succ, List.nil_append, List.cons_append] at F6
  obtain ⟨W6, hW6⟩ : ∃ x, w5.setCell ⟨Q, 1, none⟩ (.slice a5 st.length c5) = x := ⟨_, rfl⟩
  rw [hW6] at F6 ⊢
  clear hW6 F5 d0_0 d0_1 d0_2 d2_0 d2_1 d2_2 df2_0 df2_1 df2_2
  have c1_0 := F6.out.c 1 0 rfl rfl
  have c1_1 := F6.out.c 1 1 rfl rfl
  have c1_2 := F6.out.c 1 2 rfl rfl
  have c2_0 := F6.out.c 2 0 rfl rfl
  have c2_1 := F6.out.c 2 1 rfl rfl
  have c2_2 := F6.out.c 2 2 rfl rfl
  have cf1_0 := F6.out.f 1 0 rfl rfl
  have cf1_1 := F6.out.f 1 1 rfl rfl
  have cf1_2 := F6.out.f 1 2 rfl rfl
  go_wp2
  have FZ := F6.out.set 1 rfl (by simp) [.slice a3 sh.length c3, .slice a5 st.length c5, .int .i64 off] rfl
  simp only [setL, Nat.reduceAdd, List.set_cons_zero, List.set_cons_succ] at FZ
  have z0 := FZ.c 1 0 rfl rfl
  have z1 := FZ.c 1 1 rfl rfl
  have z2 := FZ.c 1 2 rfl rfl
  refine bodyPost_ret (v := .agg #[.slice a3 sh.length c3, .slice a5 st.length c5, .int .i64 off]) ?_ rfl ⟨a3, c3, a5, c5, rfl, FZ.rows⟩
  rw [results_cV rfl]
  go_simp
theorem viewS_of_trod {H : Type} {enc : TypeId × Value → H} {W : World} {spare : Nat → Bool} {held : Bool} {fuel : Nat} {v0 v1 v2 : Value} {x : DataW H × List MemPlace}
    (h : DataW.trod enc Try.prog W 0 spare held fuel 25 [v0, v1, v2] = some x) (hw : WB Try.prog 25 x.1) :
    ∃ a xs c b ys d k, v0 = .slice a xs.length c ∧ v1 = .slice b ys.length d ∧ v2 = .int .i64 k ∧ Ints .i64 W W.heap.size a xs ∧ Ints .i64 W W.heap.size b ys ∧ (-9223372036854775808 ≤ k ∧ k ≤ 9223372036854775807) ∧ ys.length ≤ 17592186043904 := by
  obtain ⟨n0, y0, u0, hu0, ht0, hw0⟩ := trod_field1S Try.underlying25 h hw 0 _ rfl cellsInts7 (by show 0 < 3; omega)
  obtain ⟨n1, y1, u1, hu1, ht1, hw1⟩ := trod_field1S Try.underlying25 h hw 1 _ rfl cellsInts7 (by show 1 < 3; omega)
  obtain ⟨n2, y2, u2, hu2, ht2, hw2⟩ := trod_field1S Try.underlying25 h hw 2 _ rfl cellsInt7 (by show 2 < 3; omega)
  have hu0' : v0 = u0 := by simpa using hu0
  have hu1' : v1 = u1 := by simpa using hu1
  have hu2' : v2 = u2 := by simpa using hu2
  subst hu0'; subst hu1'; subst hu2'
  obtain ⟨a, xs, c, rfl, hI, _, _⟩ := trod_ints_cap Try.underlying23 Try.underlying3 cellsInt7 ht0
  obtain ⟨b, ys, d, rfl, hJ, _, _, hbd⟩ := trod_intsS Try.underlying23 Try.underlying3 cellsInt7 bytesInt7 ht1 hw1
  obtain ⟨k1, hk1, _, hwk⟩ := DataW.trod_int Try.underlying3 ht2
  simp at hk1
  subst hk1
  exact ⟨a, xs, c, b, ys, d, k1, rfl, rfl, rfl, hI, hJ, wf_i64_iff.1 hwk, hbd⟩
theorem asksUp_of_trod {H : Type} {enc : TypeId × Value → H} {W : World} {spare : Nat → Bool} {held : Bool} {a : Option Addr} {n c : Nat} {d : DataW H} {ps : List MemPlace}
    (h : DataW.Trod enc Try.prog W 0 spare held 22 (.slice a n c) d ps) (hw : WB Try.prog 22 d) : AsksUp W W.heap.size a n := by
  obtain ⟨fuel, hf⟩ := h
  simp only [Value.cells] at hf
  obtain ⟨a', len, cap, he, hlen, hat⟩ := trod_elemsS Try.underlying22 (by rw [cellsAsk7]; omega) hf hw
  injection he with e1 e2 e3
  subst e1; subst e2; subst e3
  refine ⟨hlen, fun i hi => ?_⟩
  obtain ⟨b, off, cs, m, y, rfl, hb, hcl, hcell, hy, hwy⟩ := hat i hi
  rw [cellsAsk7] at hcl hcell
  obtain ⟨v0, v1, v2, v3, v4, v5, v6, v7, v8, v9, v10, rfl⟩ := list11 hcl
  obtain ⟨n0, y0, ht0, hv0⟩ := trod_fieldS Try.underlying30 hy hwy 0 _ rfl
  have e3 : (([v0, v1, v2, v3, v4, v5, v6, v7, v8, v9, v10].drop 0).take (Try.prog.cellsOf 25)) = [v0, v1, v2] := by rw [cellsView7]; rfl
  have ht0b : DataW.trod enc Try.prog W 0 spare held n0 25 [v0, v1, v2] = some y0 := by rw [← e3]; exact ht0
  obtain ⟨n7, y7, ht7, _⟩ := trod_fieldS Try.underlying30 hy hwy 7 _ rfl
  have e5 : (([v0, v1, v2, v3, v4, v5, v6, v7, v8, v9, v10].drop 9).take (Try.prog.cellsOf 28)) = [v9, v10] := by rw [cellsTen7]; rfl
  have ht7' : DataW.trod enc Try.prog W 0 spare held n7 28 [v9, v10] = some y7 := by rw [← e5]; exact ht7
  obtain ⟨n1, y1, u3, hu3, ht1, _⟩ := trod_field1S Try.underlying30 hy hwy 1 _ rfl cellsWords7 (by show 3 < 11; omega)
  obtain ⟨n2, y2, u4, hu4, ht2, _⟩ := trod_field1S Try.underlying30 hy hwy 2 _ rfl cellsInts7 (by show 4 < 11; omega)
  obtain ⟨n3, y3, u5, hu5, ht3, _⟩ := trod_field1S Try.underlying30 hy hwy 3 _ rfl cellsInts7 (by show 5 < 11; omega)
  obtain ⟨n4, y4, u6, hu6, ht4, _⟩ := trod_field1S Try.underlying30 hy hwy 4 _ rfl cellsInt7 (by show 6 < 11; omega)
  obtain ⟨n5, y5, u7, hu7, ht5, _⟩ := trod_field1S Try.underlying30 hy hwy 5 _ rfl cellsInt7 (by show 7 < 11; omega)
  obtain ⟨n6, y6, u8, hu8, ht6, _⟩ := trod_field1S Try.underlying30 hy hwy 6 _ rfl cellsInt7 (by show 8 < 11; omega)
  have hu3' : v3 = u3 := by simpa using hu3
  have hu4' : v4 = u4 := by simpa using hu4
  have hu5' : v5 = u5 := by simpa using hu5
  have hu6' : v6 = u6 := by simpa using hu6
  have hu7' : v7 = u7 := by simpa using hu7
  have hu8' : v8 = u8 := by simpa using hu8
  subst hu3'; subst hu4'; subst hu5'; subst hu6'; subst hu7'; subst hu8'
  obtain ⟨a1, xs1, c1, a2, xs2, c2, k0, rfl, rfl, rfl, hI1, hI2, hk0, hbd⟩ := viewS_of_trod ht0b hv0
  obtain ⟨a6, xs6, c6, a7, xs7, c7, rfl, rfl, hI6, hI7⟩ := ten7_of_trod ht7'
  obtain ⟨a3, xs3, c3, rfl, hI3, _, _⟩ := trod_ints_cap Try.underlying26 Try.underlying2 cellsI64 ht1
  obtain ⟨a4, xs4, c4, rfl, hI4, _, _⟩ := trod_ints_cap Try.underlying23 Try.underlying3 cellsInt7 ht2
  obtain ⟨a5, xs5, c5, rfl, hI5, _, _⟩ := trod_ints_cap Try.underlying23 Try.underlying3 cellsInt7 ht3
  obtain ⟨k1, hk1, _, hw1⟩ := DataW.trod_int Try.underlying3 ht4
  obtain ⟨k2, hk2, _, hw2⟩ := DataW.trod_int Try.underlying3 ht5
  obtain ⟨k3, hk3, _, hw3⟩ := DataW.trod_int Try.underlying3 ht6
  simp at hk1 hk2 hk3
  subst hk1; subst hk2; subst hk3
  refine ⟨b, off, rfl, a1, a2, a3, a4, a5, a6, a7, c1, c2, c3, c4, c5, c6, c7, xs1, xs2, xs3, xs4, xs5, xs6, xs7, k0, k1, k2, k3, ⟨hb, fun j v hj => ?_, hI1, hI2, hI3, hI4, hI5, hI6, hI7, hk0, wf_i64_iff.1 hw1, wf_i64_iff.1 hw2, wf_i64_iff.1 hw3⟩, hbd⟩
  have hj2 : j < 11 := by have := (List.getElem?_eq_some_iff.1 hj).1; simpa using this
  exact (hcell j hj2).trans hj
end Go.Proofs.Ytnafbgkfhojamaa
