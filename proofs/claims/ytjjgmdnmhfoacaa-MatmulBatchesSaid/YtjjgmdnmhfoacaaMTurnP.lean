/- A tensor with its last two axes changed, in plain numbers. No walk. -/
import Derived.Test.YtjjgmdnmhfoacaaMMulP
set_option linter.unusedVariables false
set_option linter.unusedSimpArgs false
namespace Go.Proofs.Ytjjgmdnmhfoacaa
open Go.RowKit Go.Rt

def swapL (xs : List Int) : List Int := (xs.set (xs.length - 2) (xs[xs.length - 1]?.getD 0)).set (xs.length - 1) (xs[xs.length - 2]?.getD 0)
/-- Where word k of the turned tensor stood: R rows, C columns before. -/
def turnI (R C k : Nat) : Nat := k / (R * C) * (R * C) + k % (R * C) % R * C + k % (R * C) / R
def turnL (xs ys : List Int) : List Int := (List.range ys.length).map fun k => ys[turnI (xs[xs.length - 2]?.getD 0).toNat (xs[xs.length - 1]?.getD 0).toNat k]?.getD 0

structure TurnShape (xs ys : List Int) (P R C : Nat) : Prop where
  p1 : 1 ≤ P
  r1 : 1 ≤ R
  c1 : 1 ≤ C
  r2 : R ≤ 4096
  c2 : C ≤ 4096
  len : ys.length = P * (R * C)
  bd : P * (R * C) ≤ 65536
  eR : xs[xs.length - 2]?.getD 0 = (R : Int)
  eC : xs[xs.length - 1]?.getD 0 = (C : Int)

theorem swapL_eq (xs : List Int) (h2 : 2 ≤ xs.length) : swapL xs = xs.take (xs.length - 2) ++ [xs[xs.length - 1], xs[xs.length - 2]] := by
  unfold swapL
  rw [List.getElem?_eq_getElem (show xs.length - 1 < xs.length by omega), List.getElem?_eq_getElem (show xs.length - 2 < xs.length by omega)]
  simp only [Option.getD_some]
  generalize xs[xs.length - 1] = u
  generalize xs[xs.length - 2] = v
  apply List.ext_getElem
  · simp; omega
  · intro i h1 h3
    have hl : i < xs.length := by simpa using h1
    rw [List.getElem_set, List.getElem_set]
    by_cases c1 : xs.length - 1 = i
    · rw [if_pos c1, List.getElem_append_right (by simp; omega)]
      subst c1
      simp [show xs.length - 1 - (xs.length - 2) = 1 by omega, show min (xs.length - 2) xs.length = xs.length - 2 by omega]
    · rw [if_neg c1]
      by_cases c2 : xs.length - 2 = i
      · rw [if_pos c2, List.getElem_append_right (by simp; omega)]
        subst c2
        simp [show min (xs.length - 2) xs.length = xs.length - 2 by omega]
      · rw [if_neg c2, List.getElem_append_left (by simp; omega)]
        simp
theorem swapL_len (xs : List Int) : (swapL xs).length = xs.length := by simp [swapL]

theorem swapL_get {xs : List Int} (h2 : 2 ≤ xs.length) : (swapL xs)[xs.length - 2]?.getD 0 = xs[xs.length - 1]?.getD 0 ∧ (swapL xs)[xs.length - 1]?.getD 0 = xs[xs.length - 2]?.getD 0 := by
  unfold swapL
  generalize xs[xs.length - 1]?.getD 0 = u
  generalize xs[xs.length - 2]?.getD 0 = v
  constructor
  · rw [List.getElem?_set_ne (by omega), List.getElem?_set_self (by omega)]; rfl
  · rw [List.getElem?_set_self (by simp; omega)]; rfl
theorem turnShape_of {xs ys : List Int} (ht : tenB xs ys = true) (h2 : 2 ≤ xs.length) : ∃ P R C, TurnShape xs ys P R C := by
  obtain ⟨g, l, _⟩ := tenB_iff.1 ht
  have d := goodB_dims g
  have p := goodB_prod g
  have hdR := d.at (show xs.length - 2 < xs.length by omega)
  have hdC := d.at (show xs.length - 1 < xs.length by omega)
  have hP := (d.take (xs.length - 2)).pos
  have e1 : prodI xs = prodI (xs.take (xs.length - 2)) * (xs[xs.length - 2] * xs[xs.length - 1]) := by
    conv => lhs; rw [last2 xs h2, prodI_append]
    simp [prodI]
  obtain ⟨P, hPP⟩ : ∃ P : Nat, prodI (xs.take (xs.length - 2)) = (P : Int) := ⟨(prodI (xs.take (xs.length - 2))).toNat, by omega⟩
  obtain ⟨R, hR⟩ : ∃ R : Nat, xs[xs.length - 2] = (R : Int) := ⟨(xs[xs.length - 2]).toNat, by omega⟩
  obtain ⟨C, hC⟩ : ∃ C : Nat, xs[xs.length - 1] = (C : Int) := ⟨(xs[xs.length - 1]).toNat, by omega⟩
  rw [hPP, hR, hC] at e1
  rw [hPP] at hP
  rw [hR] at hdR
  rw [hC] at hdC
  have c1 : (P : Int) * ((R : Int) * C) = ((P * (R * C) : Nat) : Int) := by simp
  rw [c1] at e1
  refine ⟨P, R, C, by omega, by omega, by omega, by omega, by omega, by omega, by omega, ?_, ?_⟩
  · rw [List.getElem?_eq_getElem (show xs.length - 2 < xs.length by omega)]; exact hR
  · rw [List.getElem?_eq_getElem (show xs.length - 1 < xs.length by omega)]; exact hC

theorem swapL_good {xs : List Int} (h : goodB xs = true) (h2 : 2 ≤ xs.length) : goodB (swapL xs) = true ∧ prodI (swapL xs) = prodI xs := by
  obtain ⟨h4, d, hp⟩ := goodB_iff.1 h
  have e2 : prodI (swapL xs) = prodI xs := by
    rw [swapL_eq xs h2]
    conv => rhs; rw [last2 xs h2]
    rw [prodI_append, prodI_append]
    simp [prodI, Int.mul_comm]
  refine ⟨goodB_iff.2 ⟨by rw [swapL_len]; exact h4, ?_, by rw [e2]; exact hp⟩, e2⟩
  intro x hx
  rw [swapL_eq xs h2] at hx
  rcases List.mem_append.1 hx with h1 | h1
  · exact d x (List.mem_of_mem_take h1)
  · simp at h1
    rcases h1 with h1 | h1 <;> (rw [h1]; exact d _ (List.getElem_mem _))

theorem turnL_eq {xs ys : List Int} {P R C : Nat} (h : TurnShape xs ys P R C) : turnL xs ys = (List.range ys.length).map fun k => ys[turnI R C k]?.getD 0 := by
  unfold turnL
  rw [h.eR, h.eC]
  simp

theorem turnI_lt {xs ys : List Int} {P R C k : Nat} (h : TurnShape xs ys P R C) (hk : k < ys.length) : turnI R C k < ys.length ∧ k / (R * C) * (R * C) ≤ 65536 ∧ k % (R * C) % R * C ≤ 65536 ∧ k / (R * C) ≤ 65536 ∧ k % (R * C) ≤ 65536 ∧ k % (R * C) % R < R ∧ k % (R * C) / R < C ∧ k % (R * C) / R ≤ 65536 := by
  obtain ⟨hP, hR, hC, _, _, hl, hb, _, _⟩ := h
  rw [hl] at hk
  have hRC : 1 ≤ R * C := Nat.mul_le_mul hR hC
  have h1 : k / (R * C) < P := Nat.div_lt_of_lt_mul (by rw [Nat.mul_comm]; exact hk)
  have h2 : k % (R * C) < R * C := Nat.mod_lt _ hRC
  have h3 : k % (R * C) % R < R := Nat.mod_lt _ hR
  have h4 : k % (R * C) / R < C := Nat.div_lt_of_lt_mul h2
  have h5 : (k % (R * C) % R + 1) * C ≤ R * C := Nat.mul_le_mul h3 (Nat.le_refl _)
  rw [Nat.add_mul, Nat.one_mul] at h5
  have h6 : (k / (R * C) + 1) * (R * C) ≤ P * (R * C) := Nat.mul_le_mul h1 (Nat.le_refl _)
  rw [Nat.add_mul, Nat.one_mul] at h6
  have h7 : k / (R * C) ≤ k := Nat.div_le_self _ _
  unfold turnI
  rw [hl]
  generalize P * (R * C) = q1 at *
  generalize k / (R * C) * (R * C) = q2 at *
  generalize k % (R * C) % R * C = q3 at *
  generalize k % (R * C) / R = q4 at *
  generalize k % (R * C) % R = q5 at *
  generalize k % (R * C) = q6 at *
  generalize k / (R * C) = q7 at *
  generalize R * C = q8 at *
  refine ⟨?_, ?_, ?_, ?_, ?_, h3, h4, ?_⟩ <;> omega

/-- Numbers of word k. -/
theorem turn_cell {xs ys : List Int} {P R C k : Nat} (h : TurnShape xs ys P R C) (hk : k < ys.length) :
    ∃ kb ki m a b ab q src : Nat, Hid (src = turnI R C k) ∧ src < ys.length ∧
      Int.tdiv (k : Int) ((R * C : Nat) : Int) = (kb : Int) ∧ (k : Int) / ((R * C : Nat) : Int) = (kb : Int) ∧ IntKind.i64.wrap (kb : Int) = (kb : Int) ∧
      Int.tmod (k : Int) ((R * C : Nat) : Int) = (ki : Int) ∧ (k : Int) % ((R * C : Nat) : Int) = (ki : Int) ∧
      IntKind.i64.wrap ((kb : Int) * ((R * C : Nat) : Int)) = (a : Int) ∧
      Int.tmod (ki : Int) (R : Int) = (m : Int) ∧ (ki : Int) % (R : Int) = (m : Int) ∧ IntKind.i64.wrap ((m : Int) * C) = (b : Int) ∧ IntKind.i64.wrap ((a : Int) + b) = (ab : Int) ∧
      Int.tdiv (ki : Int) (R : Int) = (q : Int) ∧ (ki : Int) / (R : Int) = (q : Int) ∧ IntKind.i64.wrap (q : Int) = (q : Int) ∧ IntKind.i64.wrap ((ab : Int) + q) = (src : Int) := by
  obtain ⟨h1, h2, h3, h4, h5, h6, h7, h8⟩ := turnI_lt h hk
  have hb := h.bd
  have hl := h.len
  have hk6 : ys.length ≤ 65536 := by omega
  refine ⟨k / (R * C), k % (R * C), k % (R * C) % R, k / (R * C) * (R * C), k % (R * C) % R * C, k / (R * C) * (R * C) + k % (R * C) % R * C, k % (R * C) / R, turnI R C k, Lib.hid rfl, h1, rfl, rfl, ?_, rfl, rfl, ?_, rfl, rfl, ?_, ?_, rfl, rfl, ?_, ?_⟩
  all_goals rw [IntWalk.i64_left]
  · exact wrap_nat' _ (by omega)
  · rw [← Int.natCast_mul]; exact wrap_nat' _ (by omega)
  · rw [← Int.natCast_mul]; exact wrap_nat' _ (by omega)
  · rw [← Int.natCast_add]; exact wrap_nat' _ (by omega)
  · exact wrap_nat' _ (by omega)
  · rw [← Int.natCast_add]; exact wrap_nat' _ (by unfold turnI at h1; omega)
end Go.Proofs.Ytjjgmdnmhfoacaa
