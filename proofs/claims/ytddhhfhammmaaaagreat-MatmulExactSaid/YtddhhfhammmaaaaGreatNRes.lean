/- Results in a cell; a variable of two cells; numbers that stay where another variable is written. -/
import Derived.Test.YtddhhfhammmaaaaGreatN9
set_option linter.unusedVariables false
set_option linter.unusedSimpArgs false
namespace Go.Proofs.YtddhhfhammmaaaaGreat
open Go.RowKit Go.Rt
theorem nres_c1 {fn : Func} {p : Tmp} {ty : TypeId} (h : fn.results = #[.cell p ty]) (tmps : Array Value) (P : Program) (w : World) :
    (results fn tmps).run P w = ((asAddr (tmps.getD p undef)).run P w).andThen fun a w₁ => (loadVar ty a).run P w₁ := by
  simp only [results, h]
  simp [Sem.run_bind, Result.andThen]
structure NBox2 (w : World) (b : Nat) (v0 v1 : Value) : Prop where
  c0 : w.cell? ⟨b, 0, none⟩ = some v0
  c1 : w.cell? ⟨b, 1, none⟩ = some v1
  f0 : w.frozen? ⟨b, 0, none⟩ = false
  f1 : w.frozen? ⟨b, 1, none⟩ = false
theorem NBox2.below {w w' : World} {b n : Nat} {v0 v1 : Value} (h : NBox2 w b v0 v1) (hb : Below n w w') (hn : b < n) : NBox2 w' b v0 v1 :=
  ⟨(hb.cell (p := ⟨b, 0, none⟩) hn).trans h.c0, (hb.cell (p := ⟨b, 1, none⟩) hn).trans h.c1, (hb.frozen (p := ⟨b, 0, none⟩) hn).trans h.f0, (hb.frozen (p := ⟨b, 1, none⟩) hn).trans h.f1⟩
theorem ints_setOtherN {k : IntKind} {w : World} {hi : Nat} {a : Option Addr} {xs : List Int} {q o : Nat} {v v' : Value} (h : Ints k w hi a xs) (hc : w.cell? ⟨q, o, none⟩ = some v) (hv : ∀ x, v ≠ .int k x) : Ints k (w.setCell ⟨q, o, none⟩ v') hi a xs :=
  ⟨h.len, h.wf, fun i hi' => by
    obtain ⟨b, off, ha, hlt, hb⟩ := h.cell i hi'
    refine ⟨b, off, ha, hlt, ?_⟩
    rw [← hb]
    have hn : ¬ (b = q ∧ off + i = o) := by
      rintro ⟨h1, h2⟩
      subst h1 h2
      rw [hc] at hb
      cases hb
      exact hv _ rfl
    by_cases hq : b = q
    · have h2 : ¬ off + i = o := fun h => hn ⟨hq, h⟩
      go_simp
    · go_simp⟩
end Go.Proofs.YtddhhfhammmaaaaGreat
