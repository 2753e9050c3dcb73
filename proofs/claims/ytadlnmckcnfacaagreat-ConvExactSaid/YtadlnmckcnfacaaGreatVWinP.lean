import Derived.Test.YtadlnmckcnfacaaGreatVShape
set_option linter.unusedVariables false
set_option linter.unusedSimpArgs false
namespace Go.Proofs.YtadlnmckcnfacaaGreat
open Go.RowKit Go.Rt
structure WinV where
 L : List Int
 K : List Int
 S : List Int
 P : List Int
 D : List Int
def WinV.room (v : WinV) (i : Nat) : Int := v.L[i]?.getD 0 + 2 * (v.P[i]?.getD 0) - (v.D[i]?.getD 0) * ((v.K[i]?.getD 0) - 1) - 1
def WinV.out (v : WinV) (i : Nat) : Int := v.room i / (v.S[i]?.getD 0) + 1
def WinV.O (v : WinV) : List Int := (List.range v.L.length).map v.out
def WinV.okB (v : WinV) : Bool := (List.range v.L.length).all fun i => decide (0 ≤ v.room i)
structure WinV.R (v : WinV) : Prop where
 r : v.L.length ≤ 2
 k : v.K.length = v.L.length
 s : v.S.length = v.L.length
 p : v.P.length = v.L.length
 d : v.D.length = v.L.length
 dl : ∀ i, i < v.L.length → 1 ≤ v.L[i]?.getD 0 ∧ v.L[i]?.getD 0 ≤ 4096
 dk : ∀ i, i < v.L.length → 1 ≤ v.K[i]?.getD 0 ∧ v.K[i]?.getD 0 ≤ 4096
 ds : ∀ i, i < v.L.length → 1 ≤ v.S[i]?.getD 0 ∧ v.S[i]?.getD 0 ≤ 4096
 dp : ∀ i, i < v.L.length → 0 ≤ v.P[i]?.getD 0 ∧ v.P[i]?.getD 0 ≤ 4096
 dd : ∀ i, i < v.L.length → 1 ≤ v.D[i]?.getD 0 ∧ v.D[i]?.getD 0 ≤ 4096
theorem mul_le4096 {a b A B : Int} (ha : 0 ≤ a) (hA : a ≤ A) (hb : 0 ≤ b) (hB : b ≤ B) : 0 ≤ a * b ∧ a * b ≤ A * B :=
 ⟨Int.mul_nonneg ha hb, Int.mul_le_mul hA hB hb (by omega)⟩
theorem WinV.R.prod {v : WinV} (h : v.R) {i : Nat} (hi : i < v.L.length) : 0 ≤ (v.D[i]?.getD 0) * ((v.K[i]?.getD 0) - 1) ∧ (v.D[i]?.getD 0) * ((v.K[i]?.getD 0) - 1) ≤ 16777216 := by
 have h1 := h.dd i hi
 have h2 := h.dk i hi
 have h3 := mul_le4096 (A := 4096) (B := 4096) (a := v.D[i]?.getD 0) (b := v.K[i]?.getD 0 - 1) (by omega) h1.2 (by omega) (by omega)
 omega
theorem WinV.R.room_le {v : WinV} (h : v.R) {i : Nat} (hi : i < v.L.length) : v.room i ≤ 12287 ∧ -16777216 ≤ v.room i := by
 have h1 := h.prod hi
 have h2 := h.dl i hi
 have h3 := h.dp i hi
 unfold WinV.room
 omega
theorem WinV.R.out_pos {v : WinV} (h : v.R) {i : Nat} (hi : i < v.L.length) (h0 : 0 ≤ v.room i) : 1 ≤ v.out i ∧ v.out i ≤ 12288 := by
 have h1 := h.room_le hi
 have h2 := h.ds i hi
 unfold WinV.out
 have h3 := Int.ediv_nonneg h0 (show 0 ≤ v.S[i]?.getD 0 by omega)
 have h4 := Int.ediv_le_self (v.S[i]?.getD 0) h0
 omega
theorem WinV.O_len (v : WinV) : v.O.length = v.L.length := by simp [WinV.O]
theorem WinV.O_get (v : WinV) {i : Nat} (hi : i < v.L.length) : v.O[i]?.getD 0 = v.out i := by
 unfold WinV.O
 rw [List.getElem?_map, List.getElem?_range hi]
 rfl
theorem WinV.ok_room {v : WinV} (h : v.okB = true) {i : Nat} (hi : i < v.L.length) : 0 ≤ v.room i := by
 have := List.all_eq_true.1 h i (List.mem_range.2 hi)
 simpa using this
def WinV.x (v : WinV) (pl tp : List Int) (i : Nat) : Int := (pl[i]?.getD 0) * (v.S[i]?.getD 0) + (tp[i]?.getD 0) * (v.D[i]?.getD 0) - v.P[i]?.getD 0
def WinV.inB (v : WinV) (pl tp : List Int) (i : Nat) : Bool := decide (0 ≤ v.x pl tp i) && decide (v.x pl tp i < v.L[i]?.getD 0)
def WinV.stB (v : WinV) (pl tp : List Int) : Bool := (List.range v.L.length).all (v.inB pl tp)
def WinV.xs (v : WinV) (pl tp : List Int) : List Int := (List.range v.L.length).map (v.x pl tp)
def WinV.stI (v : WinV) (pl tp : List Int) : Int := placeI v.L (v.xs pl tp)
theorem WinV.xs_len (v : WinV) (pl tp : List Int) : (v.xs pl tp).length = v.L.length := by simp [WinV.xs]
theorem WinV.xs_get (v : WinV) (pl tp : List Int) {i : Nat} (hi : i < v.L.length) : (v.xs pl tp)[i]? = some (v.x pl tp i) := by
 unfold WinV.xs
 rw [List.getElem?_map, List.getElem?_range hi]
 rfl
theorem WinV.in_iff {v : WinV} {pl tp : List Int} {i : Nat} : v.inB pl tp i = true ↔ 0 ≤ v.x pl tp i ∧ v.x pl tp i < v.L[i]?.getD 0 := by
 unfold WinV.inB
 simp
theorem WinV.st_iff {v : WinV} {pl tp : List Int} : v.stB pl tp = true ↔ ∀ i, i < v.L.length → 0 ≤ v.x pl tp i ∧ v.x pl tp i < v.L[i]?.getD 0 := by
 unfold WinV.stB
 rw [List.all_eq_true]
 exact ⟨fun h i hi => WinV.in_iff.1 (h i (List.mem_range.2 hi)), fun h i hi => WinV.in_iff.2 (h i (List.mem_range.1 hi))⟩
theorem WinV.st_within {v : WinV} {pl tp : List Int} (h : v.stB pl tp = true) : withinB v.L (v.xs pl tp) = true := by
 refine withinB_iff.2 ⟨v.xs_len pl tp, fun i hi => ?_⟩
 rw [v.xs_get pl tp hi]
 exact WinV.st_iff.1 h i hi
theorem WinV.R.dims {v : WinV} (h : v.R) : Dims v.L := fun x hx => by
 obtain ⟨i, hi, rfl⟩ := List.getElem_of_mem hx
 have := h.dl i hi
 rwa [List.getElem?_eq_getElem hi] at this
theorem WinV.R.dimsK {v : WinV} (h : v.R) : Dims v.K := fun x hx => by
 obtain ⟨i, hi, rfl⟩ := List.getElem_of_mem hx
 have := h.dk i (by have := h.k; omega)
 rwa [List.getElem?_eq_getElem hi] at this
theorem WinV.st_bound {v : WinV} (hR : v.R) {pl tp : List Int} (h : v.stB pl tp = true) : 0 ≤ v.stI pl tp ∧ v.stI pl tp < prodI v.L :=
 placeI_bound _ _ hR.dims (WinV.st_within h)
theorem WinV.R.x_le {v : WinV} (h : v.R) {pl tp : List Int} {i : Nat} (hi : i < v.L.length) (hp : 0 ≤ pl[i]?.getD 0 ∧ pl[i]?.getD 0 ≤ 12288) (ht : 0 ≤ tp[i]?.getD 0 ∧ tp[i]?.getD 0 ≤ 4096) :
  (0 ≤ (pl[i]?.getD 0) * (v.S[i]?.getD 0) ∧ (pl[i]?.getD 0) * (v.S[i]?.getD 0) ≤ 50331648) ∧ (0 ≤ (tp[i]?.getD 0) * (v.D[i]?.getD 0) ∧ (tp[i]?.getD 0) * (v.D[i]?.getD 0) ≤ 16777216) := by
 have h1 := h.ds i hi
 have h2 := h.dd i hi
 have h3 := mul_le4096 (A := 12288) (B := 4096) (a := pl[i]?.getD 0) (b := v.S[i]?.getD 0) hp.1 hp.2 (by omega) h1.2
 have h4 := mul_le4096 (A := 4096) (B := 4096) (a := tp[i]?.getD 0) (b := v.D[i]?.getD 0) ht.1 ht.2 (by omega) h2.2
 omega
def WinV.part (v : WinV) (pl tp : List Int) (i : Nat) : Int := placeI (v.L.take i) ((v.xs pl tp).take i)
theorem WinV.part_zero (v : WinV) (pl tp : List Int) : v.part pl tp 0 = 0 := by simp [WinV.part, placeI]
theorem WinV.part_all (v : WinV) (pl tp : List Int) : v.part pl tp v.L.length = v.stI pl tp := by
 unfold WinV.part WinV.stI
 rw [List.take_length, List.take_of_length_le (by rw [v.xs_len]; exact Nat.le_refl _)]
theorem WinV.part_succ (v : WinV) (pl tp : List Int) {i : Nat} (hi : i < v.L.length) : v.part pl tp (i + 1) = v.part pl tp i * v.L[i]?.getD 0 + v.x pl tp i := by
 unfold WinV.part
 rw [placeI_take_succ v.L (v.xs pl tp) i hi (v.xs_len pl tp)]
 have h1 := v.xs_get pl tp hi
 obtain ⟨h2, h3⟩ := List.getElem?_eq_some_iff.1 h1
 rw [h3, List.getElem?_eq_getElem hi]
 rfl
theorem WinV.part_bound {v : WinV} (hR : v.R) {pl tp : List Int} {i : Nat} (hi : i ≤ v.L.length) (h : ∀ j, j < i → v.inB pl tp j = true) : 0 ≤ v.part pl tp i ∧ v.part pl tp i < 16777216 := by
 have hw : withinB (v.L.take i) ((v.xs pl tp).take i) = true := by
  refine withinB_iff.2 ⟨by simp [v.xs_len], fun j hj => ?_⟩
  have hj2 : j < i := by simp at hj; omega
  rw [List.getElem?_take_of_lt hj2, List.getElem?_take_of_lt hj2, v.xs_get pl tp (by omega)]
  exact WinV.in_iff.1 (h j hj2)
 have hb := placeI_bound _ _ (hR.dims.take i) hw
 have hp := prodI_le_pow _ (hR.dims.take i)
 have hl : (v.L.take i).length ≤ 2 := by have := hR.r; simp; omega
 have h4 : (4096 : Int) ^ (v.L.take i).length ≤ 4096 ^ 2 := by
  have : (v.L.take i).length = 0 ∨ (v.L.take i).length = 1 ∨ (v.L.take i).length = 2 := by omega
  rcases this with e | e | e <;> rw [e] <;> decide
 unfold WinV.part
 have h5 : (4096 : Int) ^ 2 = 16777216 := by decide
 omega
def WinV.wB (v : WinV) (p t : Nat) : Bool := v.stB (standsI v.O (p : Int)) (standsI v.K (t : Int))
def WinV.wI (v : WinV) (p t : Nat) : Int := v.stI (standsI v.O (p : Int)) (standsI v.K (t : Int))
theorem getD_within {xs is : List Int} (h : withinB xs is = true) {i : Nat} (hi : i < xs.length) : 0 ≤ is[i]?.getD 0 ∧ is[i]?.getD 0 < xs[i]?.getD 0 := (withinB_iff.1 h).2 i hi
theorem WinV.wI_bound {v : WinV} (hR : v.R) {p t : Nat} (h : v.wB p t = true) : 0 ≤ v.wI p t ∧ v.wI p t < prodI v.L := WinV.st_bound hR h
end Go.Proofs.YtadlnmckcnfacaaGreat
