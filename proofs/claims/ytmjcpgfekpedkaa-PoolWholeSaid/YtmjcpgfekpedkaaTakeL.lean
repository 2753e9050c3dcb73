/- A drawn region taken operation by operation, where some late operations (that wait for what is taken) need not keep the condition. No program in sight. -/
import Derived.Deep.RegionHeld3
set_option linter.unusedVariables false
set_option linter.unusedSimpArgs false
namespace Go
section
variable {P : Program} {md : Region.Mode} {ops : Array Oper} {Q : Exit → Act → World → Prop} {S S1 : World → Prop} {late : Nat → Bool}
/-- Whatever order is picked: S1 holds behind every operation, S behind every one that is not late. -/
def wpAnyJ (P : Program) (md : Region.Mode) (ops : Array Oper) (Q : Exit → Act → World → Prop) (S S1 : World → Prop) (late : Nat → Bool) : Nat → Array Bool → Act → World → Prop
  | 0, listed, a, w => Region.ready md ops listed = [] ∧ Q .normal a w
  | fuel + 1, listed, a, w =>
    (Region.ready md ops listed = [] → Q .normal a w) ∧
    ∀ i ∈ Region.ready md ops listed, wpOp P ops Q i (fun a' w' => ((late i = false → S w') ∧ S1 w') ∧ wpAnyJ P md ops Q S S1 late fuel (listed.setIfInBounds i true) a' w') a w
/-- Those that may come up, one by one. -/
def AllJ (P : Program) (md : Region.Mode) (ops : Array Oper) (Q : Exit → Act → World → Prop) (S S1 : World → Prop) (L : List Nat) (fuel : Nat) (listed : Array Bool) (a : Act) (w : World) (rs : List Nat) : Prop :=
  ∀ i ∈ rs, wpOp P ops Q i (fun a' w' => ((L.contains i = false → S w') ∧ S1 w') ∧ wpAnyJ P md ops Q S S1 L.contains fuel (listed.setIfInBounds i true) a' w') a w
theorem AllJ.nil {L : List Nat} {fuel : Nat} {listed : Array Bool} {a : Act} {w : World} : AllJ P md ops Q S S1 L fuel listed a w [] := fun _ h => by cases h
theorem AllJ.cons {L : List Nat} {fuel : Nat} {listed : Array Bool} {a : Act} {w : World} {i : Nat} {o : Oper} {rs : List Nat} (ho : ops[i]? = some o)
    (h : ∀ K : Act → World → Prop, Shut (∀ a w, (L.contains i = false → S w) → S1 w → ((L.contains i = false → S w) → S1 w → wpAnyJ P md ops Q S S1 L.contains fuel (listed.setIfInBounds i true) a w) → K a w) → if Region.wanted o (yielded ops a.tmps) = true then Oper.wp P o a w K Q else K (a.put o.dst undef) w)
    (hs : AllJ P md ops Q S S1 L fuel listed a w rs) : AllJ P md ops Q S S1 L fuel listed a w (i :: rs) := fun j hj => by
  rcases List.mem_cons.1 hj with rfl | hj
  · exact wpOp_step ho fun K hK => h K fun a w h1 h2 h3 => hK a w ⟨⟨h1, h2⟩, h3 h1 h2⟩
  · exact hs j hj
end
end Go
