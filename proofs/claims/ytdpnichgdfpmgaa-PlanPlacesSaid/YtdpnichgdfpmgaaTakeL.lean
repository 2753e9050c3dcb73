/- A drawn region taken operation by operation, where some late operations (that wait for what is taken) need not keep the condition. No program in sight. -/
import Derived.Deep.RegionHeld3
set_option linter.unusedVariables false
set_option linter.unusedSimpArgs false
namespace Go
section
variable {P : Program} {md : Region.Mode} {ops : Array Oper} {Q : Exit → Act → World → Prop} {S S1 : World → Prop} {late : Nat → Bool}
/-- Whatever order is picked: S1 holds behind every operation, S behind every one that is not late. -/
def wpAnyJ (P : Program) (md : Region.Mode) (ops : Array Oper) (Q : Exit → Act → World → Prop) (S S1 : World → Prop) (late : Nat → Bool) : Nat → Array Bool → Act → World → Prop
  | 0, listed, a, w => Region.ready md ops listed = [] ∧ Q .normal a w
  | fuel + 1, listed, a, w =>
    (Region.ready md ops listed = [] → Q .normal a w) ∧
    ∀ i ∈ Region.ready md ops listed, wpOp P ops Q i (fun a' w' => ((late i = false → S w') ∧ S1 w') ∧ wpAnyJ P md ops Q S S1 late fuel (listed.setIfInBounds i true) a' w') a w
theorem wpAny_of_J : ∀ (fuel : Nat) (listed : Array Bool) (a : Act) (w : World), wpAnyJ P md ops Q S S1 late fuel listed a w → wpAny P md ops Q fuel listed a w
  | 0, _, _, _, h => h
  | fuel + 1, _, _, _, h => ⟨h.1, fun i hi => wpOp_mono (fun a' w' h' => wpAny_of_J fuel _ a' w' h'.2) (h.2 i hi)⟩
theorem wpAnyJ_first {i : Nat} {oi : Oper} {v : Value} (hi : ops[i]? = some oi) (hsel : ∀ (j : Nat) (o : Oper) cs b, ops[j]? = some o → o.op ≠ .select cs b)
    (hQ : ∀ c a w, Q (.panic c) (a.put oi.dst v) w → Q (.panic c) a w) (T : World → Prop) (hT1 : ∀ w, T w → S1 w)  (hTi : ∀ w, T w → late i = false → S w) :
    ∀ (fuel : Nat) (listed : Array Bool) (a : Act) (w : World),
      (∀ j, listed.getD j true = false → ∀ oj, ops[j]? = some oj → (∀ e ∈ oj.after, Region.binds md e = true → e.on ≠ i) → ∀ w, (late j = false → S w) → S1 w → T w) →
      (∀ j oj, ops[j]? = some oj → j ≠ i → listed.getD j true = false → (∀ e ∈ oj.after, Region.binds md e = true → e.on ≠ i) → oi.apart ops oj = true) →
      i ∈ Region.ready md ops listed → YieldsIf P ops T oi v a → T w →
      wpAnyJ P md ops Q S S1 late fuel (listed.setIfInBounds i true) (a.put oi.dst v) w → wpAnyJ P md ops Q S S1 late (fuel + 1) listed a w := by
  intro fuel
  induction fuel with
  | zero =>
    intro listed a w _ _ hr hy hS H
    refine ⟨fun h => (by rw [h] at hr; cases hr), fun j hj => ?_⟩
    by_cases hji : j = i
    · subst hji; exact hy.wpOp hi hS ⟨⟨hTi _ hS, hT1 _ hS⟩, H⟩
    · have h0 := ready_mono hj hji
      rw [H.1] at h0
      cases h0
  | succ fuel ih =>
    intro listed a w hlate hfree hr hy hS H
    refine ⟨fun h => (by rw [h] at hr; cases hr), fun j hj => ?_⟩
    by_cases hji : j = i
    · subst hji; exact hy.wpOp hi hS ⟨⟨hTi _ hS, hT1 _ hS⟩, H⟩
    · have h1 := H.2 j (ready_mono hj hji)
      obtain ⟨hun, oj, hoj, hall⟩ := mem_ready.1 hj
      have hnot : ∀ e ∈ oj.after, Region.binds md e = true → e.on ≠ i := fun e he hb heq => by
        have g1 := hall e he hb
        have g0 := (mem_ready.1 hr).1
        rw [heq] at g1
        rcases Nat.lt_or_ge i listed.size with g | g
        · simp [g] at g0 g1; rw [g0] at g1; cases g1
        · simp [Array.getElem?_eq_none g] at g1
      have hTj := fun w' => hlate j hun oj hoj hnot w'
      have h2 := wpOp_putIf hoj (hfree j oj hoj hji hun hnot) (fun cs b => hsel i oi cs b hi) (fun cs b => hsel j oj cs b hoj) hQ hy h1
      refine wpOp_mono (fun a' w' h3 => ⟨h3.2.1, ih (listed.setIfInBounds j true) a' w' (fun k hku ok hk hno => hlate k ?_ ok hk hno) (fun k ok hk hki hku hno => hfree k ok hk hki ?_ hno) (ready_mono hr (Ne.symm hji)) h3.1 (hTj w' h3.2.1.1 h3.2.1.2) ?_⟩) h2
      · by_cases hjk : j = k
        · subst hjk; exact hun
        · rw [getD_set_ne true hjk] at hku; exact hku
      · by_cases hjk : j = k
        · subst hjk; exact hun
        · rw [getD_set_ne true hjk] at hku; exact hku
      · rw [Array.setIfInBounds_comm _ _ hji]
        exact h3.2.2
/-- Do all late operations that are left wait for number i? -/
def lateOn (md : Region.Mode) (ops : Array Oper) (late : List Nat) (listed : Array Bool) (i : Nat) : Bool := late.all fun j => listed.getD j true || (match ops[j]? with | some o => o.after.any (fun e => Region.binds md e && e.on == i) | none => true)
/-- An operation taken first whose value hangs on S. -/
theorem takeJ {L : List Nat} {i : Nat} {oi : Oper} {dst : Option Tmp} {v : Value} {fuel : Nat} {listed : Array Bool} {a : Act} {w : World} (hi : ops[i]? = some oi) (hd : oi.dst = dst)
    (hs : Region.noSelect ops = true) (hf : Region.free md ops listed i = true) (hr : (Region.ready md ops listed).contains i = true) (hl : lateOn md ops L listed i = true)
    (hQ : ∀ c a w, Q (.panic c) (a.put oi.dst v) w → Q (.panic c) a w) (hw : Region.wanted oi (yielded ops a.tmps) = true) (hy : ∀ w, S w → (execOp a.eval oi).run P w = .ok (.value v) w) (hS : S w) (hS1 : S1 w)
    (h : wpAnyJ P md ops Q S S1 L.contains fuel (listed.setIfInBounds i true) (a.put dst v) w) : wpAnyJ P md ops Q S S1 L.contains (fuel + 1) listed a w := by
  subst hd
  refine wpAnyJ_first hi (Region.noSelect_spec hs) hQ (fun w => S w ∧ S1 w) (fun _ h => h.2) (fun _ h _ => h.1) fuel listed a w ?_ (Region.free_spec hi hf) (by simpa using hr) (.inl ⟨hw, fun w h => hy w h.1⟩) ⟨hS, hS1⟩ h
  intro j hun oj ho hno w' h1 h2
  refine ⟨h1 ?_, h2⟩
  cases hc : L.contains j with
  | false => rfl
  | true =>
    have g := List.all_eq_true.1 hl j (List.contains_iff_mem.1 hc)
    rw [hun, ho, Bool.false_or] at g
    obtain ⟨e, he, h3⟩ := Array.any_eq_true'.1 g
    simp only [Bool.and_eq_true, beq_iff_eq] at h3
    exact absurd h3.2 (hno e he h3.1)
/-- A late one, whose value hangs on S1 alone. -/
theorem takeJ1 {L : List Nat} {i : Nat} {oi : Oper} {dst : Option Tmp} {v : Value} {fuel : Nat} {listed : Array Bool} {a : Act} {w : World} (hi : ops[i]? = some oi) (hd : oi.dst = dst)
    (hs : Region.noSelect ops = true) (hf : Region.free md ops listed i = true) (hr : (Region.ready md ops listed).contains i = true) (hl : L.contains i = true)
    (hQ : ∀ c a w, Q (.panic c) (a.put oi.dst v) w → Q (.panic c) a w) (hw : Region.wanted oi (yielded ops a.tmps) = true) (hy : ∀ w, S1 w → (execOp a.eval oi).run P w = .ok (.value v) w) (hS1 : S1 w)
    (h : wpAnyJ P md ops Q S S1 L.contains fuel (listed.setIfInBounds i true) (a.put dst v) w) : wpAnyJ P md ops Q S S1 L.contains (fuel + 1) listed a w := by
  subst hd
  exact wpAnyJ_first hi (Region.noSelect_spec hs) hQ S1 (fun _ h => h) (fun _ _ hf => by rw [hl] at hf; cases hf) fuel listed a w (fun _ _ _ _ _ _ _ h => h) (Region.free_spec hi hf) (by simpa using hr) (.inl ⟨hw, hy⟩) hS1 h
/-- Those that may come up, one by one. -/
def AllJ (P : Program) (md : Region.Mode) (ops : Array Oper) (Q : Exit → Act → World → Prop) (S S1 : World → Prop) (L : List Nat) (fuel : Nat) (listed : Array Bool) (a : Act) (w : World) (rs : List Nat) : Prop :=
  ∀ i ∈ rs, wpOp P ops Q i (fun a' w' => ((L.contains i = false → S w') ∧ S1 w') ∧ wpAnyJ P md ops Q S S1 L.contains fuel (listed.setIfInBounds i true) a' w') a w
theorem AllJ.nil {L : List Nat} {fuel : Nat} {listed : Array Bool} {a : Act} {w : World} : AllJ P md ops Q S S1 L fuel listed a w [] := fun _ h => by cases h
theorem AllJ.cons {L : List Nat} {fuel : Nat} {listed : Array Bool} {a : Act} {w : World} {i : Nat} {o : Oper} {rs : List Nat} (ho : ops[i]? = some o)
    (h : ∀ K : Act → World → Prop, Shut (∀ a w, (L.contains i = false → S w) → S1 w → ((L.contains i = false → S w) → S1 w → wpAnyJ P md ops Q S S1 L.contains fuel (listed.setIfInBounds i true) a w) → K a w) → if Region.wanted o (yielded ops a.tmps) = true then Oper.wp P o a w K Q else K (a.put o.dst undef) w)
    (hs : AllJ P md ops Q S S1 L fuel listed a w rs) : AllJ P md ops Q S S1 L fuel listed a w (i :: rs) := fun j hj => by
  rcases List.mem_cons.1 hj with rfl | hj
  · exact wpOp_step ho fun K hK => h K fun a w h1 h2 h3 => hK a w ⟨⟨h1, h2⟩, h3 h1 h2⟩
  · exact hs j hj
theorem readyJ {L : List Nat} {rs : List Nat} {fuel : Nat} {listed : Array Bool} {a : Act} {w : World} (hr : Region.ready md ops listed = rs) (hne : rs ≠ []) (h : AllJ P md ops Q S S1 L fuel listed a w rs) : wpAnyJ P md ops Q S S1 L.contains (fuel + 1) listed a w :=
  ⟨fun h0 => absurd (hr ▸ h0) hne, hr ▸ h⟩
theorem doneJ {fuel : Nat} {listed : Array Bool} {a : Act} {w : World} (hr : Region.ready md ops listed = []) (h : Q .normal a w) : wpAnyJ P md ops Q S S1 late fuel listed a w := by
  cases fuel with
  | zero => exact ⟨hr, h⟩
  | succ n => exact ⟨fun _ => h, by rw [hr]; simp⟩
theorem wp_region_J {L : List Nat} {id : Nat} {a : Act} {w : World} (hm : P.follows .mixedOrders = true) (hS : S w.drew) (hS1 : S1 w.drew)
    (h : S w.drew → S1 w.drew → wpAnyJ P .any ops Q S S1 L.contains ops.size (Array.replicate ops.size false) a w.drew) : (Code.region id ops true).wp P Q a w :=
  wp_region_any hm (wpAny_of_J _ _ _ _ (h hS hS1))
end
end Go
