/- What the laws of layer 24 share: a generator kept in a variable, wakes, the first draw taken. -/
import Derived.Test.YtiejkdnkdmanmaaRngW8
import Derived.Test.YtiejkdnkdmanmaaEnv
import Derived.Sort.AtCall
import Derived.Laws.Bits64b
set_option linter.unusedVariables false
set_option linter.unusedSimpArgs false
namespace Go.Rt
open Go.RowKit
section
variable {e : TypeId} {B : Nat} {w0 W W' : World} {L : List (Option Addr × List Int)} {O : List (Nat × Option Addr × Nat × List Int)} {C : List (Addr × Value)}
/-- A call has made a generator of its own; it is laid into a new variable. -/
theorem Env.rand (h : Env .u64 e B w0 W L O C) (hb : Below W.heap.size W W') {a : Option Addr} {xs : List Int} {c : Nat} (va vb vc vd : Value) (T : TypeId)
    (ho : W'.ownsRow W.heap.size e 1 (.slice a xs.length c) xs.length (xs.map (Value.int .u64))) (hwf : ∀ x ∈ xs, (Lit.int .u64 x).wf = true) :
    Env .u64 e B w0 (W'.alloc (.cells #[.slice a xs.length c, va, vb, vc, vd] T)) ((a, xs) :: L) ((W.heap.size, a, c, xs) :: O)
      ((⟨W'.heap.size, 0, none⟩, .slice a xs.length c) :: (⟨W'.heap.size, 1, none⟩, va) :: (⟨W'.heap.size, 2, none⟩, vb) :: (⟨W'.heap.size, 3, none⟩, vc) :: (⟨W'.heap.size, 4, none⟩, vd) :: C) := by
  obtain ⟨a', c', he, E⟩ := h.made hb ho hwf
  injection he with e1 _ e3
  subst e1; subst e3
  exact (((((E.alloc _).addC (by simp [go_sem])).addC (by simp [go_sem])).addC (by simp [go_sem])).addC (by simp [go_sem])).addC (by simp [go_sem])
end
theorem wf_of_bounds {xs : List Int} (h : ∀ x ∈ xs, 0 ≤ x ∧ x ≤ 18446744073709551615) : ∀ x ∈ xs, (Lit.int .u64 x).wf = true := fun x hx => wf_u64_iff.2 (h x hx)
end Go.Rt
namespace Go.Proofs.Ytiejkdnkdmanmaa
open Go.RowKit Go.Rt

theorem own_cap {w : World} {base : Nat} {e : TypeId} {a : Option Addr} {n c : Nat} {xs : List Value} (h : w.ownsRow base e 1 (.slice a n c) n xs) : n ≤ c := by
  rcases h.2 with ⟨h1, h2⟩ | ⟨g, cap, cur, h1, h2, h3⟩
  · injection h1 with _ e2 e3; omega
  · injection h1 with _ e2 e3
    have := h3.2
    omega

theorem below_first (a : Option Addr) (c : Nat) (s : St) (xs : List Int) (n : Int) (w : World) (hi : Ints .u64 w w.heap.size a xs) (hc : xs.length ≤ c) (hc2 : c ≤ 9223372036854775807) (hs : GoodS xs s) (hg4 : xs.length ≤ 4096) (h1 : 1 ≤ n) (h2 : n ≤ 18446744073709551615) (ht : takes n (gX xs s) = true) :
    Calls Try.prog 14 #[.agg #[.slice a xs.length c, .int .u64 (s.a : Nat), .int .u64 (s.b : Nat), .int .u64 (s.c : Nat), .int .u64 (s.d : Nat)], .int .u64 n] w (RetOwn w (gX xs s % n) (gL xs) (gS xs s) 0) :=
  below_good a c s xs n 0 w hi hc hc2 hs hg4 h1 h2 (fun j hj => absurd hj (Nat.not_lt_zero _)) ht

theorem leftN_pow (k : Nat) (hk : k < 64) : leftN (2 ^ k) = 0 := by
  have : ∀ k : Fin 64, leftN (2 ^ k.val) = 0 := by decide
  exact this ⟨k, hk⟩
theorem takes_pow (k : Nat) (hk : k < 64) (x : Int) : takes (2 ^ k) x = true := by
  unfold takes
  rw [leftN_pow k hk]
  simp
theorem pow_bounds (k : Nat) (hk : k < 64) : (1 : Int) ≤ 2 ^ k ∧ (2 : Int) ^ k ≤ 9223372036854775808 := by
  have : ∀ k : Fin 64, (1 : Int) ≤ 2 ^ k.val ∧ (2 : Int) ^ k.val ≤ 9223372036854775808 := by decide
  exact this ⟨k, hk⟩

theorem mask_pow (k : Nat) (hk : k < 64) (x : Int) (h0 : 0 ≤ x) (h1 : x ≤ 18446744073709551615) : bits .and .u64 x (2 ^ k - 1) = x % 2 ^ k := by
  obtain ⟨n, rfl⟩ : ∃ n : Nat, x = n := ⟨x.toNat, by omega⟩
  have e : ((2 : Int) ^ k - 1) = ((2 ^ k - 1 : Nat) : Int) := by
    have : 0 < 2 ^ k := Nat.pow_pos (by decide)
    have h2 : ((2 ^ k : Nat) : Int) = (2 : Int) ^ k := by simp
    omega
  have hp : (2 : Nat) ^ k ≤ 2 ^ 63 := Nat.pow_le_pow_right (by decide) (by omega)
  rw [e, bits_and_u64_nat n (2 ^ k - 1) (by omega) (by omega), Nat.and_two_pow_sub_one_eq_mod]
  simp

set_option maxRecDepth 100000 in
theorem wakes24_any (w : World) : Calls Try.prog 17 #[] w fun e w' => e = .returned (.bool true) ∧ Below w.heap.size w w' := by
  have hg : GoodS [7] ⟨1, 0, 0, 0⟩ := ⟨⟨by decide, by decide, by decide, by decide⟩, by decide, by simp⟩
  have hI : Ints .u64 (w.alloc (.cells #[.int .u64 7] 24)) (w.alloc (.cells #[.int .u64 7] 24)).heap.size (some ⟨w.heap.size, 0, none⟩) [7] := by
    refine ⟨by simp, by decide, fun i hi => ?_⟩
    obtain rfl : i = 0 := by simpa using hi
    exact ⟨w.heap.size, 0, rfl, by simp, by go_simp⟩
  have HN : Hid (Calls Try.prog 16 #[.agg #[.slice (some ⟨w.heap.size, 0, none⟩) 1 1, .int .u64 1, .int .u64 0, .int .u64 0, .int .u64 0]] (w.alloc (.cells #[.int .u64 7] 24)) (RetOwn (w.alloc (.cells #[.int .u64 7] 24)) 7 [] ⟨1, 0, 0, 0⟩ 0)) :=
    Lib.hid (next_good (some ⟨w.heap.size, 0, none⟩) 1 ⟨1, 0, 0, 0⟩ [7] _ hI (by simp) (by omega) hg (by simp))
  clear hI hg
  go_enter Try.func17, Try.ntmps17
  go_wp2_with (first
    | (go_at_call 16; go_loud (refine HN.out.mono ?_; rintro e w1 ⟨a1, c1, rfl, hown, hb⟩; have HB := Lib.hid hb; clear hown hb))
    | (go_at_call 15; refine (num24_any _ _).mono ?_; rintro e w' ⟨rfl, rfl⟩))
  go_ret
  exact ⟨rfl, Below.alloc (Below.trans ((Below.refl _ _).alloc (Nat.le_refl _) _) (HB.out.mono (by simp))) (by have := HB.out.size; simp at this; omega) _⟩
end Go.Proofs.Ytiejkdnkdmanmaa
