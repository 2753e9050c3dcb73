/- Draws of a generator with a script: the first that is taken. Plain arithmetic, no program in sight. -/
import Derived.Test.YtiejkdnkdmanmaaRng
set_option linter.unusedVariables false
set_option linter.unusedSimpArgs false
namespace Go.Rt

def gX (xs : List Int) (s : St) : Int := match xs with | [] => (s.draw : Nat) | x :: _ => x
def gL (xs : List Int) : List Int := xs.tail
def gS (xs : List Int) (s : St) : St := match xs with | [] => s.next | _ :: _ => s

/-- The script and the state behind k draws. -/
def gen (xs : List Int) (s : St) : Nat → List Int × St
  | 0 => (xs, s)
  | k + 1 => (gL (gen xs s k).1, gS (gen xs s k).1 (gen xs s k).2)
def genX (xs : List Int) (s : St) (k : Nat) : Int := gX (gen xs s k).1 (gen xs s k).2

def GoodS (xs : List Int) (s : St) : Prop := s.ok ∧ s.zero = false ∧ ∀ x ∈ xs, 0 ≤ x ∧ x ≤ 18446744073709551615
theorem GoodS.next {xs : List Int} {s : St} (h : GoodS xs s) : GoodS (gL xs) (gS xs s) := by
  obtain ⟨h1, h2, h3⟩ := h
  cases xs with
  | nil => exact ⟨St.next_ok h1, St.next_zero h1 h2, h3⟩
  | cons x r => exact ⟨h1, h2, fun y hy => h3 y (List.mem_cons_of_mem _ hy)⟩
theorem GoodS.gen {xs : List Int} {s : St} (h : GoodS xs s) : ∀ k, GoodS (gen xs s k).1 (gen xs s k).2
  | 0 => h
  | k + 1 => (GoodS.gen h k).next
theorem GoodS.x {xs : List Int} {s : St} (h : GoodS xs s) : 0 ≤ gX xs s ∧ gX xs s ≤ 18446744073709551615 := by
  obtain ⟨h1, h2, h3⟩ := h
  cases xs with
  | nil =>
    have := s.draw_lt
    simp only [gX]
    omega
  | cons x r => exact h3 x (List.mem_cons_self ..)
theorem GoodS.genX {xs : List Int} {s : St} (h : GoodS xs s) (k : Nat) : 0 ≤ genX xs s k ∧ genX xs s k ≤ 18446744073709551615 := (h.gen k).x
theorem gen_len (xs : List Int) (s : St) : ∀ k, (gen xs s k).1.length = xs.length - k
  | 0 => rfl
  | k + 1 => by
    show (gL (gen xs s k).1).length = _
    simp only [gL, List.length_tail, gen_len xs s k]
    omega
theorem gen_behind {xs : List Int} {s : St} : ∀ k, (gen xs s (xs.length + k)) = ([], St.iter k (gen xs s xs.length).2)
  | 0 => by
    have : (gen xs s xs.length).1 = [] := List.eq_nil_of_length_eq_zero (by rw [gen_len]; omega)
    simp only [Nat.add_zero, St.iter]
    rw [← this]
  | k + 1 => by
    show (gL (gen xs s (xs.length + k)).1, gS (gen xs s (xs.length + k)).1 (gen xs s (xs.length + k)).2) = _
    rw [gen_behind k]
    rfl

/-- 2^64 modulo n. -/
def leftN (n : Int) : Int := (18446744073709551615 % n + 1) % n
def takes (n x : Int) : Bool := decide (leftN n = 0) || decide (x < 18446744073709551616 - leftN n)
theorem leftN_bounds {n : Int} (hn : 1 ≤ n) : 0 ≤ leftN n ∧ leftN n < n := ⟨Int.emod_nonneg _ (by omega), Int.emod_lt_of_pos _ (by omega)⟩
theorem takes_zero {n : Int} (h1 : 1 ≤ n) (h2 : n ≤ 18446744073709551615) : takes n 0 = true := by
  have := leftN_bounds h1
  unfold takes
  rw [Bool.or_eq_true]
  right
  simp
  omega

/-- A draw is taken; k: the first one. -/
theorem draw_ends {xs : List Int} {s : St} {n : Int} (h : GoodS xs s) (h1 : 1 ≤ n) (h2 : n ≤ 18446744073709551615) :
    ∃ k, (∀ j, j < k → takes n (genX xs s j) = false) ∧ takes n (genX xs s k) = true := by
  have hb := h.gen xs.length
  obtain ⟨k, hk⟩ := St.draws0 hb.1 hb.2.1
  have : takes n (genX xs s (xs.length + k)) = true := by
    have e : genX xs s (xs.length + k) = 0 := by
      unfold genX
      rw [gen_behind k]
      simp only [gX, hk]
      rfl
    rw [e]
    exact takes_zero h1 h2
  obtain ⟨m, hm, hmin⟩ := least_exists (fun k => takes n (genX xs s k) = true) _ this
  refine ⟨m, fun j hj => ?_, hm⟩
  have := hmin j hj
  simpa using this
end Go.Rt
