/- Walks: copying and laying, in all cases. -/
import Derived.Test.YtnafbgkfhojamaaViewC
set_option linter.unusedVariables false
set_option linter.unusedSimpArgs false
namespace Go.Proofs.Ytnafbgkfhojamaa
open Go.RowKit Go.Rt
/-- May it be copied? -/
def cpB (sh st : List Int) (off : Int) (data : List Int) : Bool := viewB sh st off data.length && data.all isW
def cpS (sh st : List Int) (off : Int) (data : List Int) : List Int := if cpB sh st off data = true then sh else []
def cpY (sh st : List Int) (off : Int) (data : List Int) : List Int := if cpB sh st off data = true then wordsV sh st off data else []
def cpZ (sh st : List Int) (off : Int) (data : List Int) : Int := if cpB sh st off data = true then 0 else 1
/-- May it be laid? -/
def lyB (sh st : List Int) (off : Int) (data tsh tys : List Int) : Bool := cpB sh st off data && tenB tsh tys
def lyG (sh st : List Int) (off : Int) (data tsh tys : List Int) : Bool := lyB sh st off data tsh tys && decide (tsh = sh) && onceV sh st off
def lyL (sh st : List Int) (off : Int) (data tsh tys : List Int) : List Int := if lyG sh st off data tsh tys = true then layV sh st off tys data else []
def lyZ (sh st : List Int) (off : Int) (data tsh tys : List Int) : Int := if lyB sh st off data tsh tys = true then (if lyG sh st off data tsh tys = true then 0 else 2) else 1
theorem cp_yes {sh st data : List Int} {off : Int} (h : cpB sh st off data = true) : cpS sh st off data = sh ∧ cpY sh st off data = wordsV sh st off data ∧ cpZ sh st off data = 0 := by unfold cpS cpY cpZ; simp [h]
theorem cp_no {sh st data : List Int} {off : Int} (h : cpB sh st off data = false) : cpS sh st off data = [] ∧ cpY sh st off data = [] ∧ cpZ sh st off data = 1 := by unfold cpS cpY cpZ; simp [h]
theorem cpS_wf {sh st data : List Int} {off : Int} (h : ∀ x ∈ sh, (Lit.int .i64 x).wf = true) : ∀ x ∈ cpS sh st off data, (Lit.int .i64 x).wf = true := by
  intro x hx
  unfold cpS at hx
  split at hx
  · exact h x hx
  · cases hx
theorem getD_wf {data : List Int} (h : ∀ x ∈ data, (Lit.int .i64 x).wf = true) (i : Nat) : (Lit.int .i64 (data[i]?.getD 0)).wf = true := by
  cases hg : data[i]? with
  | none => exact wf_i64_iff.2 ⟨by decide, by decide⟩
  | some x => exact h x (List.mem_of_getElem? hg)
theorem cpY_wf {sh st data : List Int} {off : Int} (h : ∀ x ∈ data, (Lit.int .i64 x).wf = true) : ∀ x ∈ cpY sh st off data, (Lit.int .i64 x).wf = true := by
  intro x hx
  unfold cpY at hx
  split at hx
  · unfold wordsV at hx
    obtain ⟨k, _, rfl⟩ := List.mem_map.1 hx
    exact getD_wf h _
  · cases hx
theorem layP_mem : ∀ (l ps ys : List Int) (x : Int), x ∈ layP l ps ys → x ∈ l ∨ x ∈ ys
  | l, [], ys, x, h => .inl (by simpa [layP] using h)
  | l, _ :: _, [], x, h => .inl (by simpa [layP] using h)
  | l, p :: ps, y :: ys, x, h => by
    rw [layP] at h
    rcases layP_mem _ ps ys x h with h | h
    · rcases List.mem_or_eq_of_mem_set h with h | h
      · exact .inl h
      · exact .inr (by rw [h]; exact List.mem_cons_self ..)
    · exact .inr (List.mem_cons_of_mem _ h)
theorem lyL_wf {sh st data tsh tys : List Int} {off : Int} (h : ∀ x ∈ data, (Lit.int .i64 x).wf = true) (h2 : ∀ x ∈ tys, (Lit.int .i64 x).wf = true) : ∀ x ∈ lyL sh st off data tsh tys, (Lit.int .i64 x).wf = true := by
  intro x hx
  unfold lyL at hx
  split at hx
  · rcases layP_mem _ _ _ _ hx with h3 | h3
    · exact h x h3
    · exact h2 x h3
  · cases hx
theorem cpS_len (sh st data : List Int) (off : Int) : (cpS sh st off data).length ≤ sh.length := by unfold cpS; split <;> simp
theorem cpY_len (sh st data : List Int) (off : Int) : (cpY sh st off data).length ≤ 65536 := by
  unfold cpY
  split
  · next h =>
    unfold cpB at h
    rw [Bool.and_eq_true] at h
    have := goodB_prod (viewB_iff.1 h.1).1
    rw [wordsV_len]; omega
  · simp
theorem lyL_len (sh st data tsh tys : List Int) (off : Int) : (lyL sh st off data tsh tys).length ≤ data.length := by
  unfold lyL
  split
  · unfold layV; rw [layP_len]; exact Nat.le_refl _
  · simp
theorem vcopy_all (a b ad : Option Addr) (c d cd : Nat) (sh st data : List Int) (off : Int) (w : World) (h : Ints .i64 w w.heap.size a sh) (h2 : Ints .i64 w w.heap.size b st) (h3 : Ints .i64 w w.heap.size ad data) :
    Calls Try.prog 16 #[.agg #[.slice a sh.length c, .slice b st.length d, .int .i64 off], .slice ad data.length cd] w (RetTV w (cpS sh st off data) (cpY sh st off data) (cpZ sh st off data)) := by
  cases hb : cpB sh st off data with
  | true =>
    obtain ⟨e1, e2, e3⟩ := cp_yes hb
    rw [e1, e2, e3]
    have h4 := hb
    unfold cpB at h4
    rw [Bool.and_eq_true] at h4
    exact vcopy_good a b ad c d cd sh st data off w h h2 h3 h4.1 h4.2
  | false =>
    obtain ⟨e1, e2, e3⟩ := cp_no hb
    rw [e1, e2, e3]
    refine vcopy_bad a b ad c d cd sh st data off w h h2 h3 (fun h4 => ?_)
    unfold cpB at hb
    rw [h4.1, h4.2] at hb
    cases hb
theorem vlay_all (a b ad p q : Option Addr) (c d cd cp cq : Nat) (sh st data tsh tys : List Int) (off : Int) (w : World) (h : Ints .i64 w w.heap.size a sh) (h2 : Ints .i64 w w.heap.size b st) (h3 : Ints .i64 w w.heap.size ad data) (h5 : Ints .i64 w w.heap.size p tsh) (h6 : Ints .i64 w w.heap.size q tys) :
    Calls Try.prog 17 #[.agg #[.slice a sh.length c, .slice b st.length d, .int .i64 off], .agg #[.slice p tsh.length cp, .slice q tys.length cq], .slice ad data.length cd] w (RetWV w (lyL sh st off data tsh tys) (lyZ sh st off data tsh tys)) := by
  cases hb : lyB sh st off data tsh tys with
  | false =>
    have e1 : lyG sh st off data tsh tys = false := by unfold lyG; rw [hb]; rfl
    have e2 : lyL sh st off data tsh tys = [] := by unfold lyL; simp [e1]
    have e3 : lyZ sh st off data tsh tys = 1 := by unfold lyZ; simp [hb]
    rw [e2, e3]
    cases c0 : viewB sh st off data.length with
    | false => exact vlay_bad0 a b ad p q c d cd cp cq sh st data tsh tys off w h h2 h3 h5 h6 c0
    | true =>
      cases c1 : data.all isW with
      | false => exact vlay_bad1 a b ad p q c d cd cp cq sh st data tsh tys off w h h2 h3 h5 h6 c0 c1
      | true =>
        cases c2 : goodB tsh with
        | false => exact vlay_bad2 a b ad p q c d cd cp cq sh st data tsh tys off w h h2 h3 h5 h6 c0 c1 c2
        | true =>
          by_cases c3 : (tys.length : Int) = prodI tsh
          · cases c4 : tys.all isW with
            | false => exact vlay_bad4 a b ad p q c d cd cp cq sh st data tsh tys off w h h2 h3 h5 h6 c0 c1 c2 c3 c4
            | true =>
              exfalso
              unfold lyB cpB tenB at hb
              rw [c0, c1, c2, c4, decide_eq_true c3] at hb
              cases hb
          · exact vlay_bad3 a b ad p q c d cd cp cq sh st data tsh tys off w h h2 h3 h5 h6 c0 c1 c2 c3
  | true =>
    have hb2 := hb
    unfold lyB cpB at hb2
    rw [Bool.and_eq_true, Bool.and_eq_true] at hb2
    obtain ⟨⟨c0, c1⟩, ct⟩ := hb2
    have ct2 := ct
    unfold tenB at ct2
    rw [Bool.and_eq_true, Bool.and_eq_true, decide_eq_true_eq] at ct2
    obtain ⟨c2, c3, c4⟩ := ct2
    by_cases hs : tsh = sh
    · subst hs
      have h7 := vlay_good a b ad p q c d cd cp cq tsh st data tys off w h h2 h3 h5 h6 c0 c1 c3 c4
      have e1 : lyG tsh st off data tsh tys = onceV tsh st off := by unfold lyG; rw [hb]; simp
      have e2 : lyL tsh st off data tsh tys = layR tsh st off tys data := by unfold lyL layR; rw [e1]
      have e3 : lyZ tsh st off data tsh tys = layZ tsh st off := by unfold lyZ layZ; rw [e1, hb]; simp
      rw [e2, e3]
      exact h7
    · have e1 : lyG sh st off data tsh tys = false := by unfold lyG; simp [hs]
      have e2 : lyL sh st off data tsh tys = [] := by unfold lyL; simp [e1]
      have e3 : lyZ sh st off data tsh tys = 2 := by unfold lyZ; simp [hb, e1]
      rw [e2, e3]
      exact vlay_shape a b ad p q c d cd cp cq sh st data tsh tys off w h h2 h3 h5 h6 c0 c1 c2 c3 c4 hs
set_option maxRecDepth 100000 in
/-- A tensor is written over. -/
theorem spoilT2_any (a b : Option Addr) (c d base : Nat) (sh ys : List Int) (w : World) (h : w.ownsRow base 3 1 (.slice a sh.length c) sh.length (sh.map (Value.int .i64))) (h2 : w.ownsRow base 2 1 (.slice b ys.length d) ys.length (ys.map (Value.int .i64))) (hne : ∀ g, (Value.slice a sh.length c).ownBlock = some g → (Value.slice b ys.length d).ownBlock ≠ some g) (hn : sh.length ≤ 100000) (hn2 : ys.length ≤ 100000) (hb : base ≤ w.heap.size) :
    Calls Try.prog 21 #[.agg #[.slice a sh.length c, .slice b ys.length d]] w fun e w' => e = .returned (.tuple #[]) ∧ ∃ W1 W2, Below w.heap.size w W1 ∧ W1.grownBy W2 (Value.slice a sh.length c).ownBlock ∧ W2.grownBy w' (Value.slice b ys.length d).ownBlock := by
  go_enter Try.func21, Try.ntmps21
  have HO := Lib.hid (h.alloc (.cells #[.slice a sh.length c, .slice b ys.length d] 28))
  have HP := Lib.hid (h2.alloc (.cells #[.slice a sh.length c, .slice b ys.length d] 28))
  have HB := Lib.hid ((Below.refl w.heap.size w).alloc (Nat.le_refl _) (.cells #[.slice a sh.length c, .slice b ys.length d] 28))
  have HLT := Lib.hid h.lt
  have HLT2 := Lib.hid h2.lt
  have HNE := Lib.hid hne
  have hbx := box2_at w (.slice a sh.length c) (.slice b ys.length d) 28
  have HX := Lib.hid hbx
  clear h h2 hne hbx
  go_upto_region 1 with fail
  obtain ⟨B, hB⟩ : ∃ x, w.heap.size = x := ⟨_, rfl⟩
  obtain ⟨W1, hW1⟩ : ∃ W1, w.alloc (.cells #[.slice a sh.length c, .slice b ys.length d] 28) = W1 := ⟨_, rfl⟩
  have hs1 : W1.heap.size = B + 1 := by rw [← hW1]; simp [hB]
  rw [hW1] at HO HP HB HX ⊢
  rw [hB] at HX HLT HLT2 hb HB ⊢
  clear hW1
  obtain ⟨x0, x1⟩ := HX.out
  have HC1 := Lib.hid (numbers_any a c base sh W1 HO.out (by omega) (by omega))
  go_upto_region 2 with (go_at_call 57; refine HC1.out.mono ?_; rintro e w2 ⟨rfl, hg, hbl⟩; have HG := Lib.hid hg; have HBL := Lib.hid hbl; clear hg hbl)
  have y1 := HG.out.cell x1 (fun e => by have := HLT.out B e.symm; omega)
  have HP2 := Lib.hid (HP.out.kept HG.out (by
    cases hv : (Value.slice a sh.length c).ownBlock with
    | none => cases hv2 : (Value.slice b ys.length d).ownBlock <;> simp
    | some g => exact .inr (HNE.out g hv)))
  have hsz := HG.out.size
  have HC2 := Lib.hid (spoilW_any b d base ys w2 HP2.out (by omega) (by omega))
  clear x0 x1
  go_wp2_with (go_at_call 22; refine HC2.out.mono ?_; rintro e w3 ⟨rfl, hg, hbl⟩; have HG3 := Lib.hid hg; clear hg hbl)
  go_end0
  exact ⟨rfl, _, _, (by rw [hB]; exact HB.out), HG.out, HG3.out⟩
end Go.Proofs.Ytnafbgkfhojamaa
