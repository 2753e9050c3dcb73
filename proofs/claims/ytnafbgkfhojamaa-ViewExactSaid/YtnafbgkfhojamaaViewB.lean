/- Walks: what wakes layer 7; words written over. -/
import Derived.Test.YtnafbgkfhojamaaViewA
import Derived.Test.YtnafbgkfhojamaaView6
set_option linter.unusedVariables false
set_option linter.unusedSimpArgs false
namespace Go.Proofs.Ytnafbgkfhojamaa
open Go.RowKit Go.Rt
set_option maxHeartbeats 400000 in
theorem numbers_any (a : Option Addr) (c base : Nat) (xs : List Int) (w : World) (h : w.ownsRow base 3 1 (.slice a xs.length c) xs.length (xs.map (Value.int .i64))) (hn : xs.length ≤ 17592186044415) (hb : base ≤ w.heap.size) :
    Calls Try.prog 57 #[.slice a xs.length c] w fun e w' => e = .returned (.tuple #[]) ∧ w.grownBy w' (Value.slice a xs.length c).ownBlock ∧ Below base w w' := by
  obtain ⟨N, hN⟩ : ∃ N, N = xs.length := ⟨_, rfl⟩
  rw [← hN] at h hn ⊢
  have HN := Lib.hid hN
  clear hN
  go_enter Try.func57, Try.ntmps57
  go_wp2
  go_loopw [2] (fun i wr => ∃ (k : Nat) (ys : List Int), k ≤ N ∧ i = .int .i64 k ∧ wr.ownsRow base 3 1 (.slice a N c) N (ys.map (Value.int .i64)) ∧ w.grownBy wr (Value.slice a N c).ownBlock) (fun i _ => N - (intOf i).toNat)
  case atStart => exact ⟨0, xs, Nat.zero_le _, rfl, h, World.grownBy.refl _ _⟩
  case round =>
    obtain ⟨k, ys, hk, rfl, hown, hgr⟩ := hrel
    by_cases hlt : k < N
    · obtain ⟨a', c', he, hsh⟩ := own_shape hown
      injection he with he1 he2 he3
      subst he1; subst he3
      obtain ⟨g, rfl, hg1, hg2⟩ := hsh.resolve_left (by omega)
      have hold : wr.cell? ⟨g, k, none⟩ = some (.int .i64 (ys[k]?.getD 0)) := own_cell hown hlt
      have hfr := hown.frozenAt k
      have hst := hown.stored k (.int .i64 (-99))
      have HO : Hid ((wr.setCell ⟨g, k, none⟩ (.int .i64 (-99))).ownsRow base 3 1 (.slice (some ⟨g, 0, none⟩) N c) N ((ys.set k (-99)).map (Value.int .i64))) := by
        have h0 := hst.1
        rw [map_set] at h0
        exact h0
      have HG := Lib.hid (grown_trans hgr hst.2)
      clear hown hgr hst hsh he2 h
      go_wp2
      go_roundw
      case rel => exact ⟨k + 1, _, by omega, by go_num, HO.out, HG.out⟩
      case measure => simp [intOf]; omega
    · have hke : k = N := by omega
      subst hke
      have HO := Lib.hid hown
      have HG := Lib.hid hgr
      have HL : Hid (∀ j, (Value.slice a k c).ownBlock = some j → base ≤ j) := fun j hj => (h.lt j hj).1
      have hsz := hgr.size
      have hb' : base ≤ wr.heap.size := by omega
      clear hown hgr h
      go_wp2_with (at_builtin; (refine wpl_append1 23 3 .i64 infoInt Try.underlying23 base _ k ys 5 _ _ _ rfl rfl rfl HO.out rfl (by omega) hb' ?_); intro v' w1 hown1 hbel1 hg1)
      have HG1 := Lib.hid (grown_trans HG.out hg1)
      clear hown1 hbel1 hg1
      go_end0
      exact ⟨rfl, HG1.out, (Below.refl _ _).grown HG1.out hb HL.out⟩

set_option maxHeartbeats 400000 in
theorem spoilW_any (a : Option Addr) (c base : Nat) (xs : List Int) (w : World) (h : w.ownsRow base 2 1 (.slice a xs.length c) xs.length (xs.map (Value.int .i64))) (hn : xs.length ≤ 17592186044415) (hb : base ≤ w.heap.size) :
    Calls Try.prog 22 #[.slice a xs.length c] w fun e w' => e = .returned (.tuple #[]) ∧ w.grownBy w' (Value.slice a xs.length c).ownBlock ∧ Below base w w' := by
  obtain ⟨N, hN⟩ : ∃ N, N = xs.length := ⟨_, rfl⟩
  rw [← hN] at h hn ⊢
  have HN := Lib.hid hN
  clear hN
  go_enter Try.func22, Try.ntmps22
  go_wp2
  go_loopw [2] (fun i wr => ∃ (k : Nat) (ys : List Int), k ≤ N ∧ i = .int .i64 k ∧ wr.ownsRow base 2 1 (.slice a N c) N (ys.map (Value.int .i64)) ∧ w.grownBy wr (Value.slice a N c).ownBlock) (fun i _ => N - (intOf i).toNat)
  case atStart => exact ⟨0, xs, Nat.zero_le _, rfl, h, World.grownBy.refl _ _⟩
  case round =>
    obtain ⟨k, ys, hk, rfl, hown, hgr⟩ := hrel
    by_cases hlt : k < N
    · obtain ⟨a', c', he, hsh⟩ := own_shape hown
      injection he with he1 he2 he3
      subst he1; subst he3
      obtain ⟨g, rfl, hg1, hg2⟩ := hsh.resolve_left (by omega)
      have hold : wr.cell? ⟨g, k, none⟩ = some (.int .i64 (ys[k]?.getD 0)) := own_cell hown hlt
      have hfr := hown.frozenAt k
      have hst := hown.stored k (.int .i64 (-9999))
      have HO : Hid ((wr.setCell ⟨g, k, none⟩ (.int .i64 (-9999))).ownsRow base 2 1 (.slice (some ⟨g, 0, none⟩) N c) N ((ys.set k (-9999)).map (Value.int .i64))) := by
        have h0 := hst.1
        rw [map_set] at h0
        exact h0
      have HG := Lib.hid (grown_trans hgr hst.2)
      clear hown hgr hst hsh he2 h
      go_wp2
      go_roundw
      case rel => exact ⟨k + 1, _, by omega, by go_num, HO.out, HG.out⟩
      case measure => simp [intOf]; omega
    · have hke : k = N := by omega
      subst hke
      have HO := Lib.hid hown
      have HG := Lib.hid hgr
      have HL : Hid (∀ j, (Value.slice a k c).ownBlock = some j → base ≤ j) := fun j hj => (h.lt j hj).1
      have hsz := hgr.size
      have hb' : base ≤ wr.heap.size := by omega
      clear hown hgr h
      go_wp2_with (at_builtin; (refine wpl_append1 26 2 .i64 infoI64 Try.underlying26 base _ k ys 5 _ _ _ rfl rfl rfl HO.out rfl (by omega) hb' ?_); intro v' w1 hown1 hbel1 hg1)
      have HG1 := Lib.hid (grown_trans HG.out hg1)
      clear hown1 hbel1 hg1
      go_end0
      exact ⟨rfl, HG1.out, (Below.refl _ _).grown HG1.out hb HL.out⟩

theorem num7_any (e : Int) (w : World) : Calls Try.prog 18 #[.int .i64 e] w fun r w' => r = .returned (.int .i64 e) ∧ w = w' := by
  go_enter Try.func18, Try.ntmps18
  go_wp2
  go_ret
  exact ⟨by first | rfl | simp, rfl⟩
theorem ints_of_box {W : World} {b n : Nat} {xs : List Int} (h : BoxL W b (xs.map (Value.int .i64))) (hb : b < n) (hl : xs.length ≤ 1000) (hwf : ∀ x ∈ xs, (Lit.int .i64 x).wf = true) : Ints .i64 W n (some ⟨b, 0, none⟩) xs :=
  ⟨by omega, hwf, fun i hi => ⟨b, 0, rfl, hb, by rw [Nat.zero_add]; exact h.cell i _ (by rw [List.getElem?_map, List.getElem?_eq_getElem hi]; rfl)⟩⟩
theorem wf_small {xs : List Int} (h : xs.all (fun x => decide (-1000 ≤ x) && decide (x ≤ 1000)) = true) : ∀ x ∈ xs, (Lit.int .i64 x).wf = true := fun x hx => by
  have h1 := List.all_eq_true.1 h x hx
  simp only [Bool.and_eq_true, decide_eq_true_eq] at h1
  exact wf_i64_iff.2 ⟨by omega, by omega⟩
theorem box2_at (w : World) (v0 v1 : Value) (t : TypeId) : (w.alloc (.cells #[v0, v1] t)).cell? ⟨w.heap.size, 0, none⟩ = some v0 ∧ (w.alloc (.cells #[v0, v1] t)).cell? ⟨w.heap.size, 1, none⟩ = some v1 := by
  have h := BoxL.new w [v0, v1] t
  exact ⟨h.cell 0 _ rfl, h.cell 1 _ rfl⟩
set_option maxRecDepth 100000 in
/-- A tensor is written over. -/
theorem spoilT_any (a b : Option Addr) (c d base : Nat) (sh ys : List Int) (w : World) (h : w.ownsRow base 3 1 (.slice a sh.length c) sh.length (sh.map (Value.int .i64))) (h2 : w.ownsRow base 2 1 (.slice b ys.length d) ys.length (ys.map (Value.int .i64))) (hne : ∀ g, (Value.slice a sh.length c).ownBlock = some g → (Value.slice b ys.length d).ownBlock ≠ some g) (hn : sh.length ≤ 100000) (hn2 : ys.length ≤ 100000) (hb : base ≤ w.heap.size) :
    Calls Try.prog 21 #[.agg #[.slice a sh.length c, .slice b ys.length d]] w fun e w' => e = .returned (.tuple #[]) ∧ Below base w w' := by
  go_enter Try.func21, Try.ntmps21
  have HO := Lib.hid (h.alloc (.cells #[.slice a sh.length c, .slice b ys.length d] 28))
  have HP := Lib.hid (h2.alloc (.cells #[.slice a sh.length c, .slice b ys.length d] 28))
  have HB := Lib.hid ((Below.refl base w).alloc hb (.cells #[.slice a sh.length c, .slice b ys.length d] 28))
  have HLT := Lib.hid h.lt
  have HLT2 := Lib.hid h2.lt
  have HNE := Lib.hid hne
  have hbx := box2_at w (.slice a sh.length c) (.slice b ys.length d) 28
  have HX := Lib.hid hbx
  clear h h2 hne hbx
  go_upto_region 1 with fail
  obtain ⟨B, hB⟩ : ∃ x, w.heap.size = x := ⟨_, rfl⟩
  obtain ⟨W1, hW1⟩ : ∃ W1, w.alloc (.cells #[.slice a sh.length c, .slice b ys.length d] 28) = W1 := ⟨_, rfl⟩
  have hs1 : W1.heap.size = B + 1 := by rw [← hW1]; simp [hB]
  rw [hW1] at HO HP HB HX ⊢
  rw [hB] at HX HLT HLT2 hb ⊢
  clear hW1
  obtain ⟨x0, x1⟩ := HX.out
  have HC1 := Lib.hid (numbers_any a c base sh W1 HO.out (by omega) (by omega))
  go_upto_region 2 with (go_at_call 57; refine HC1.out.mono ?_; rintro e w2 ⟨rfl, hg, hbl⟩; have HG := Lib.hid hg; have HBL := Lib.hid hbl; clear hg hbl)
  have y1 := HG.out.cell x1 (fun e => by have := HLT.out B e.symm; omega)
  have HP2 := Lib.hid (HP.out.kept HG.out (by
    cases hv : (Value.slice a sh.length c).ownBlock with
    | none => cases hv2 : (Value.slice b ys.length d).ownBlock <;> simp
    | some g => exact .inr (HNE.out g hv)))
  have hsz := HG.out.size
  have HC2 := Lib.hid (spoilW_any b d base ys w2 HP2.out (by omega) (by omega))
  clear x0 x1
  go_wp2_with (go_at_call 22; refine HC2.out.mono ?_; rintro e w3 ⟨rfl, hg, hbl⟩; have HBL3 := Lib.hid hbl; clear hg hbl)
  go_end0
  exact ⟨rfl, HB.out.trans (HBL.out.trans HBL3.out)⟩

set_option maxRecDepth 100000 in
set_option maxHeartbeats 1000000 in
theorem wakes7_any (w : World) : Calls Try.prog 23 #[] w fun e w' => e = .returned (.bool true) ∧ Below w.heap.size w w' := by
  go_enter Try.func23, Try.ntmps23
  have F1 := Lib.hid ((Fr.start (w := w) (I := []) (by simp)).box1 (b := w.heap.size) rfl [.int .i64 2, .int .i64 2] 3)
  simp only [List.nil_append] at F1
  obtain ⟨W1, hW1⟩ : ∃ W1, (w.alloc (.cells #[.int .i64 2, .int .i64 2] 3)) = W1 := ⟨_, rfl⟩
  have HI1 : Hid (Ints .i64 W1 W1.heap.size (some ⟨w.heap.size, 0, none⟩) [2, 2]) := Lib.hid (by rw [← hW1]; exact ints_of_box (BoxL.new w [.int .i64 2, .int .i64 2] 3) (by simp) (by simp) (wf_small (by decide)))
  have hof := of_good (some ⟨w.heap.size, 0, none⟩) 2 [2, 2] W1 HI1.out (by decide)
  rw [show strI [2, 2] = [2, 1] from rfl] at hof
  have HOF := Lib.hid hof
  rw [hW1] at F1
  clear hof HI1
  go_upto_region 2 with (go_at_call 33; refine HOF.out.mono ?_; rintro e w2 ⟨a1, c1, a2, c2, rfl, hf⟩; have F2 := Lib.hid (F1.out.join hf); clear hf F1 HOF)
  simp only [List.nil_append, List.cons_append] at F2
  clear hW1
  obtain ⟨Q1, hQ1⟩ : ∃ x, w2.heap.size = x := ⟨_, rfl⟩
  have F3 := Lib.hid (F2.out.box1 (b := Q1) hQ1 [.slice a1 2 c1, .slice a2 2 c2, .int .i64 0] 25)
  simp only [List.nil_append, List.cons_append] at F3
  obtain ⟨W3, hW3⟩ : ∃ x, (w2.alloc (.cells #[.slice a1 2 c1, .slice a2 2 c2, .int .i64 0] 25)) = x := ⟨_, rfl⟩
  rw [hQ1]
  rw [hW3] at F3 ⊢
  clear hW3 hQ1 F2
  have q0 := F3.out.c 1 0 rfl rfl
  have q1 := F3.out.c 1 1 rfl rfl
  have q2 := F3.out.c 1 2 rfl rfl
  obtain ⟨P1, hP1⟩ : ∃ x, W3.heap.size = x := ⟨_, rfl⟩
  have F4 := Lib.hid (F3.out.box1 (b := P1) hP1 [.int .i64 1, .int .i64 0] 3)
  simp only [List.nil_append, List.cons_append] at F4
  obtain ⟨W4, hW4⟩ : ∃ x, (W3.alloc (.cells #[.int .i64 1, .int .i64 0] 3)) = x := ⟨_, rfl⟩
  rw [hW4] at F4
  have htr := vtrans_good a1 a2 (some ⟨P1, 0, none⟩) c1 c2 2 [2, 2] [2, 1] [1, 0] 0 W4 (F4.out.li 0 (k := .i64) (xs := [2, 2]) rfl (wf_small (by decide))) (F4.out.li 1 (k := .i64) (xs := [2, 1]) rfl (wf_small (by decide))) (ints_of_box (xs := [1, 0]) (F4.out.box _ (List.mem_of_getElem? (i := 2) rfl)).1 (F4.out.bl 2 rfl).2 (by simp) (wf_small (by decide))) (by decide) (by decide)
  rw [show permL [2, 2] [1, 0] = [2, 2] from rfl, show permL [2, 1] [1, 0] = [1, 2] from rfl] at htr
  have HTR := Lib.hid htr
  clear htr
  go_upto_region 3 with (go_at_call 25; refine HTR.out.mono ?_; rintro e w5 ⟨a3, c3, a4, c4, rfl, hf⟩; have F5 := Lib.hid (F4.out.join hf); clear hf F4 F3 HTR q0 q1 q2)
  simp only [List.nil_append, List.cons_append] at F5
  clear hW4 hP1
  obtain ⟨Q2, hQ2⟩ : ∃ x, w5.heap.size = x := ⟨_, rfl⟩
  have F6 := Lib.hid (F5.out.box1 (b := Q2) hQ2 [.slice a3 2 c3, .slice a4 2 c4, .int .i64 0] 25)
  simp only [List.nil_append, List.cons_append] at F6
  obtain ⟨W6, hW6⟩ : ∃ x, (w5.alloc (.cells #[.slice a3 2 c3, .slice a4 2 c4, .int .i64 0] 25)) = x := ⟨_, rfl⟩
  rw [hQ2]
  rw [hW6] at F6 ⊢
  clear hW6 hQ2 F5
  have q0 := F6.out.c 3 0 rfl rfl
  have q1 := F6.out.c 3 1 rfl rfl
  have q2 := F6.out.c 3 2 rfl rfl
  obtain ⟨P2, hP2⟩ : ∃ x, W6.heap.size = x := ⟨_, rfl⟩
  have F7 := Lib.hid (F6.out.box1 (b := P2) hP2 [.int .i64 1, .int .i64 2, .int .i64 3, .int .i64 4] 2)
  simp only [List.nil_append, List.cons_append] at F7
  obtain ⟨W7, hW7⟩ : ∃ x, (W6.alloc (.cells #[.int .i64 1, .int .i64 2, .int .i64 3, .int .i64 4] 2)) = x := ⟨_, rfl⟩
  rw [hW7] at F7
  have hcp := vcopy_good a3 a4 (some ⟨P2, 0, none⟩) c3 c4 4 [2, 2] [1, 2] [1, 2, 3, 4] 0 W7 (F7.out.li 2 (k := .i64) (xs := [2, 2]) rfl (wf_small (by decide))) (F7.out.li 3 (k := .i64) (xs := [1, 2]) rfl (wf_small (by decide))) (ints_of_box (xs := [1, 2, 3, 4]) (F7.out.box _ (List.mem_of_getElem? (i := 4) rfl)).1 (F7.out.bl 4 rfl).2 (by simp) (wf_small (by decide))) (by decide) (by decide)
  rw [show wordsV [2, 2] [1, 2] 0 [1, 2, 3, 4] = [1, 3, 2, 4] from by decide] at hcp
  have HCP := Lib.hid hcp
  clear hcp
  go_upto_region 4 with (go_at_call 16; refine HCP.out.mono ?_; rintro e w8 ⟨a5, c5, a6, c6, rfl, hf⟩; have F8 := Lib.hid (F7.out.join hf); clear hf F7 F6 HCP q0 q1 q2)
  simp only [List.nil_append, List.cons_append] at F8
  clear hW7 hP2
  obtain ⟨Q3, hQ3⟩ : ∃ x, w8.heap.size = x := ⟨_, rfl⟩
  have F9 := Lib.hid (F8.out.box1 (b := Q3) hQ3 [.slice a5 2 c5, .slice a6 4 c6] 28)
  simp only [List.nil_append, List.cons_append] at F9
  obtain ⟨W9, hW9⟩ : ∃ x, (w8.alloc (.cells #[.slice a5 2 c5, .slice a6 4 c6] 28)) = x := ⟨_, rfl⟩
  rw [hQ3]
  rw [hW9] at F9 ⊢
  clear hW9 hQ3 F8
  have q0 := F9.out.c 5 0 rfl rfl
  have q1 := F9.out.c 5 1 rfl rfl
  obtain ⟨P3, hP3⟩ : ∃ x, W9.heap.size = x := ⟨_, rfl⟩
  have FA := Lib.hid (F9.out.box1 (b := P3) hP3 [.int .i64 1, .int .i64 3, .int .i64 2, .int .i64 4] 2)
  simp only [List.nil_append, List.cons_append] at FA
  obtain ⟨WA, hWA⟩ : ∃ x, (W9.alloc (.cells #[.int .i64 1, .int .i64 3, .int .i64 2, .int .i64 4] 2)) = x := ⟨_, rfl⟩
  rw [hWA] at FA
  have heq := eqWords_any a6 (some ⟨P3, 0, none⟩) c6 4 _ [1, 3, 2, 4] [1, 3, 2, 4] WA (FA.out.li 5 (k := .i64) (xs := [1, 3, 2, 4]) rfl (wf_small (by decide))) (ints_of_box (xs := [1, 3, 2, 4]) (FA.out.box _ (List.mem_of_getElem? (i := 6) rfl)).1 (FA.out.bl 6 rfl).2 (by simp) (wf_small (by decide)))
  rw [decide_eq_true rfl] at heq
  have HEQ := Lib.hid heq
  clear heq
  go_wp2_with (first | (go_at_call 18; refine (num7_any _ _).mono ?_; rintro e w' ⟨rfl, rfl⟩) | (go_at_call 20; refine HEQ.out.mono ?_; rintro e w' ⟨rfl, q, rfl⟩))
  go_ret
  exact ⟨rfl, below_drewN FA.out.bel _⟩
end Go.Proofs.Ytnafbgkfhojamaa
