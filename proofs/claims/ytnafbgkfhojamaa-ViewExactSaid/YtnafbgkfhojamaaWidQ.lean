/- A view widened by one dimension in front; plain views. No program in sight. -/
import Derived.Test.YtnafbgkfhojamaaViewBT
import Derived.Test.YtnafbgkfhojamaaWidP
import Derived.Test.YtnafbgkfhojamaaVList2
set_option linter.unusedVariables false
set_option linter.unusedSimpArgs false
namespace Go.Proofs.Ytnafbgkfhojamaa
open Go.RowKit Go.Rt
theorem goes_cons {sh : List Int} {n : Int} (hD : Dims sh) (hg : goodB (n :: sh) = true) : goesB sh (n :: sh) = true := by
  have hn : 1 ≤ n := (goodB_dims hg).head.1
  have hm : max sh.length (n :: sh).length = sh.length + 1 := by simp
  have h1 : padI (sh.length + 1) sh = 1 :: sh := by simp [padI]
  have h2 : padI (sh.length + 1) (n :: sh) = n :: sh := by simp [padI]
  have hz : ∀ l : List Int, List.zipWith max l l = l := fun l => by
    induction l with
    | nil => rfl
    | cons x l ih => simp [ih]
  have hl : spreadL sh (n :: sh) = n :: sh := by
    unfold spreadL
    rw [hm, h1, h2, List.zipWith_cons_cons, hz, Int.max_eq_right hn]
  have hmm : ∀ l : List Int, (List.zipWith meetB l l).all id = true := fun l => by
    induction l with
    | nil => rfl
    | cons x l ih => simp [meetB]
  have hb : meetsB sh (n :: sh) = true := by
    unfold meetsB
    rw [hm, h1, h2, List.zipWith_cons_cons, List.all_cons, hmm]
    simp [meetB]
  have he : spreadE sh (n :: sh) = 0 := by unfold spreadE; rw [if_pos hb, hl, if_pos hg]
  unfold goesB spreadR
  rw [he, if_pos rfl, hl]
  simp
theorem widL_cons {sh st : List Int} {n : Int} (hl : st.length = sh.length) : widL sh st (n :: sh) = 0 :: st := by
  apply List.ext_getElem?
  intro i
  by_cases hi : i < sh.length + 1
  · unfold widL widK
    rw [List.getElem?_map, List.getElem?_range (by simpa using hi)]
    simp only [Option.map_some, List.length_cons]
    rw [if_pos (by omega)]
    unfold widI
    simp only [List.length_cons]
    rw [show sh.length + 1 - sh.length = 1 by omega]
    cases i with
    | zero => rw [if_neg (by omega)]; rfl
    | succ j =>
      simp only [Nat.add_sub_cancel, List.getElem?_cons_succ]
      rw [if_pos (by simp), List.getElem?_eq_getElem (by omega)]
      rfl
  · rw [List.getElem?_eq_none (by rw [widL_len]; simp; omega), List.getElem?_eq_none (by simp; omega)]
theorem viewB_cons {sh st : List Int} {off n N : Int} (hv : viewB sh st off N = true) (hg : goodB (n :: sh) = true) : viewB (n :: sh) (0 :: st) off N = true := by
  obtain ⟨h1, h2, h3, h4, h5, h6, h7⟩ := viewB_iff.1 hv
  refine viewB_iff.2 ⟨hg, by simp [h2], h3, h4, h5, fun x hx => ?_, ?_⟩
  · rcases List.mem_cons.1 hx with rfl | hx
    · omega
    · exact h6 x hx
  · show off + (0 * (n - 1) + topV sh st) < N
    omega
theorem atV_cons {sh st : List Int} {off n : Int} (k r : Nat) (hD : Dims sh) : atV (n :: sh) (0 :: st) off ((k : Int) * prodI sh + (r : Int)) = atV sh st off r := by
  have hP := hD.pos
  unfold atV
  simp only [standsI, dotI, Int.mul_zero, Int.zero_add]
  have : standsI sh ((k : Int) * prodI sh + (r : Int)) = standsI sh r := standsI_congr sh _ _ hD (by rw [Int.add_comm, Int.add_mul_emod_self_right])
  rw [this]
theorem words_cons {sh st data : List Int} {off n : Int} (hD : Dims sh) (m : Nat) (hn : n = (m : Int)) : (wordsV (n :: sh) (0 :: st) off data).length = m * (wordsV sh st off data).length ∧ ∀ k, k < m → ((wordsV (n :: sh) (0 :: st) off data).drop (k * (wordsV sh st off data).length)).take (wordsV sh st off data).length = wordsV sh st off data := by
  have hP := hD.pos
  obtain ⟨P, hPe⟩ : ∃ P : Nat, prodI sh = (P : Int) := ⟨(prodI sh).toNat, by omega⟩
  have h1 : (wordsV sh st off data).length = P := by rw [wordsV_len, hPe]; rfl
  have h2 : (wordsV (n :: sh) (0 :: st) off data).length = m * P := by rw [wordsV_len, prodI, hPe, hn]; norm_cast
  refine ⟨by rw [h1, h2], fun k hk => ?_⟩
  have hkP : k * P + P ≤ m * P := by rw [← Nat.succ_mul]; exact Nat.mul_le_mul_right P hk
  apply List.ext_getElem?
  intro r
  by_cases hr : r < P
  · rw [List.getElem?_take_of_lt (by rw [h1]; exact hr), List.getElem?_drop, h1, wordsV_get _ _ _ _ (by rw [← wordsV_len (n :: sh) (0 :: st) off data, h2]; omega), wordsV_get _ _ _ _ (by rw [hPe]; exact hr)]
    have e : ((k * P + r : Nat) : Int) = (k : Int) * prodI sh + (r : Int) := by rw [hPe]; norm_cast
    rw [e, atV_cons k r hD]
  · rw [List.getElem?_eq_none (by rw [List.length_take, h1]; omega), List.getElem?_eq_none (by rw [h1]; omega)]
theorem topV_strI : ∀ (sh : List Int), Dims sh → topV sh (strI sh) = prodI sh - 1
  | [], _ => rfl
  | d :: r, h => by
    have ih := topV_strI r h.tail
    show prodI r * (d - 1) + topV r (strI r) = d * prodI r - 1
    rw [ih, Int.mul_sub, Int.mul_one, Int.mul_comm]
    omega
theorem viewB_plain {sh : List Int} (hg : goodB sh = true) : viewB sh (strI sh) 0 65536 = true := by
  obtain ⟨h1, h2⟩ := goodB_prod hg
  refine viewB_iff.2 ⟨hg, strI_length sh, by omega, by omega, by omega, fun x hx => ?_, ?_⟩
  · have := strI_mem (goodB_dims hg) h2 x hx; omega
  · rw [topV_strI sh (goodB_dims hg)]; omega
theorem prodE {n L B : Nat} (h : B = n * L) : ∀ [Inhabited Unit], ((n : Int) * (L : Int)) = (B : Int) := by
  intro _
  rw [h]
  norm_cast
theorem prodW {n L B : Nat} (h : B = n * L) (hb : B ≤ 65536) : ∀ [Inhabited Unit], wrap64 ((n : Int) * (L : Int)) = (B : Int) := by
  intro _
  rw [prodE h]
  exact IntWalk.wrap64_in _ (by omega)
theorem prodW2 {k L u : Nat} (h : k * L = u) (hb : u ≤ 65536) : ∀ [Inhabited Unit], wrap64 ((k : Int) * (L : Int)) = (u : Int) := prodW h.symm hb
theorem prodW3 {k L v : Nat} (h : (k + 1) * L = v) (hb : v ≤ 65536) : ∀ [Inhabited Unit], wrap64 (((k : Int) + 1) * (L : Int)) = (v : Int) := by
  have := prodW (n := k + 1) h.symm hb
  intro _
  rw [← this]
  norm_cast
theorem prodK2 {k L u : Nat} (h : k * L = u) (hb : u ≤ 65536) : ∀ [Inhabited Unit], IntKind.i64.wrap ((k : Int) * (L : Int)) = (u : Int) := by
  intro _
  rw [prodE h.symm]
  exact IntWalk.i64_in _ (by omega)
theorem prodK3 {k L v : Nat} (h : (k + 1) * L = v) (hb : v ≤ 65536) : ∀ [Inhabited Unit], IntKind.i64.wrap (((k : Int) + 1) * (L : Int)) = (v : Int) := by
  have := prodK2 (k := k + 1) h hb
  intro _
  rw [← this]
  norm_cast
theorem row_cap {w : World} {base : Nat} {e : TypeId} {a : Option Addr} {n c : Nat} {xs : List Value} (h : w.ownsRow base e 1 (.slice a n c) n xs) (hn : n ≠ 0) : ∃ g, a = some ⟨g, 0, none⟩ ∧ n ≤ c := by
  rcases h.2 with ⟨e1, _⟩ | ⟨g, cap, cur, e1, _, _, hnc, _⟩
  · simp only [Value.slice.injEq] at e1
    exact absurd e1.2.1 hn
  · simp only [Value.slice.injEq] at e1
    obtain ⟨rfl, _, rfl⟩ := e1
    exact ⟨g, rfl, hnc⟩
end Go.Proofs.Ytnafbgkfhojamaa
