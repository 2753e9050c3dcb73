/- Walks: shape.Spread, Lies, Under; the reference's Goes, Under; law0's Numbers, Within. -/
import Derived.Test.YtiejkdnkdmanmaaShapeW7
set_option linter.unusedVariables false
set_option linter.unusedSimpArgs false
namespace Go.Proofs.Ytiejkdnkdmanmaa
open Go.RowKit Go.Rt

/-- The error of shape.Spread. -/
def spreadPE (xs ys : List Int) : Int := if goodB xs && goodB ys then spreadE xs ys else 1
def spreadPL (xs ys : List Int) : List Int := if goodB xs && goodB ys then spreadR xs ys else []

theorem spread_any (a a2 : Option Addr) (c c2 : Nat) (xs ys : List Int) (w : World) (h : Ints .i64 w w.heap.size a xs) (h2 : Ints .i64 w w.heap.size a2 ys) :
    Calls Try.prog 44 #[.slice a xs.length c, .slice a2 ys.length c2] w (RetIntsE w (spreadPL xs ys) (spreadPE xs ys)) := by
  have HG := Lib.hid (good_any a c _ xs w h)
  have HG2 := Lib.hid (good_any a2 c2 _ ys w h2)
  cases hg : goodB xs
  · rw [hg] at HG
    have HE : Hid (spreadPE xs ys = 1 ∧ spreadPL xs ys = []) := ⟨by simp [spreadPE, hg], by simp [spreadPL, hg]⟩
    clear h h2 hg
    go_enter Try.func44, Try.ntmps44
    go_wp2_with fail
    refine HG.out.mono ?_
    rintro e w' ⟨rfl, rfl⟩
    go_wp2_with fail
    go_ret2
    exact ⟨.slice none 0 0, by rw [HE.out.1]; rfl, by rw [HE.out.2]; exact World.ownsRow_nil _ _ _ _, Below.refl _ _⟩
  · rw [hg] at HG
    cases hg2 : goodB ys
    · rw [hg2] at HG2
      have HE : Hid (spreadPE xs ys = 1 ∧ spreadPL xs ys = []) := ⟨by simp [spreadPE, hg2], by simp [spreadPL, hg2]⟩
      clear h h2 hg hg2
      go_enter Try.func44, Try.ntmps44
      go_wp2_with fail
      refine HG.out.mono ?_
      rintro e w' ⟨rfl, rfl⟩
      go_wp2_with fail
      refine HG2.out.mono ?_
      rintro e w' ⟨rfl, rfl⟩
      go_wp2_with fail
      go_ret2
      exact ⟨.slice none 0 0, by rw [HE.out.1]; rfl, by rw [HE.out.2]; exact World.ownsRow_nil _ _ _ _, Below.refl _ _⟩
    · rw [hg2] at HG2
      have HE : Hid (spreadPE xs ys = spreadE xs ys ∧ spreadPL xs ys = spreadR xs ys) := ⟨by simp [spreadPE, hg, hg2], by simp [spreadPL, hg, hg2]⟩
      have HB := Lib.hid (both_any a a2 c c2 xs ys w h h2 hg hg2)
      clear h h2 hg hg2
      go_enter Try.func44, Try.ntmps44
      go_wp2_with fail
      refine HG.out.mono ?_
      rintro e w' ⟨rfl, rfl⟩
      go_wp2_with fail
      refine HG2.out.mono ?_
      rintro e w' ⟨rfl, rfl⟩
      go_wp2_with fail
      refine HB.out.mono ?_
      rintro e w1 ⟨v, rfl, hown, hb⟩
      go_wp2_with fail
      go_ret2
      exact ⟨v, by rw [HE.out.1]; rfl, by rw [HE.out.2]; exact hown, hb⟩

/-! what stands under an index -/
def adjL (s t is : List Int) : List Int := List.zipWith (fun d x => if d = 1 then 0 else x) s (is.drop (t.length - s.length))
def goesB (s t : List Int) : Bool := decide (spreadE s t = 0) && decide (spreadR s t = t)
def underE (s t is : List Int) : Int := if goodB s && goodB t then (if goesB s t && withinB t is then 0 else 2) else 1
def underN (s t is : List Int) : Int := if underE s t is = 0 then placeI s (adjL s t is) else 0

theorem goes_facts {s t : List Int} (hs : Dims s) (h : goesB s t = true) : s.length ≤ t.length ∧ ∀ k, k < s.length → s[k]?.getD 0 = 1 ∨ s[k]?.getD 0 = t[t.length - s.length + k]?.getD 0 := by
  simp only [goesB, Bool.and_eq_true, decide_eq_true_eq] at h
  obtain ⟨h1, h2⟩ := h
  have hm : meetsB s t = true := by
    cases hm : meetsB s t with
    | true => rfl
    | false => simp [spreadE, hm] at h1
  have hL : spreadL s t = t := by simpa [spreadR, h1] using h2
  have hlen := spreadL_length s t
  rw [hL] at hlen
  refine ⟨by omega, fun k hk => ?_⟩
  have hj : t.length - s.length + k < max s.length t.length := by omega
  have hg := spreadL_get s t (t.length - s.length + k) hj
  rw [hL] at hg
  have hk2 : max s.length t.length - 1 - (t.length - s.length + k) = s.length - 1 - k := by omega
  rw [hk2] at hg
  have hme := (meetsB_iff s t).1 hm (s.length - 1 - k) (by omega)
  have hds : dimI s (s.length - 1 - k) = s[k]?.getD 0 := by
    unfold dimI
    rw [if_pos (by omega), show s.length - 1 - (s.length - 1 - k) = k by omega]
  have hdt : dimI t (s.length - 1 - k) = t[t.length - s.length + k]?.getD 0 := by
    unfold dimI
    rw [if_pos (by omega), show t.length - 1 - (s.length - 1 - k) = t.length - s.length + k by omega]
  rw [hds, hdt] at hme hg
  have hx1 : 1 ≤ s[k]?.getD 0 := by rw [List.getElem?_eq_getElem hk]; exact (hs.at hk).1
  have hy : t[t.length - s.length + k]?.getD 0 = max (s[k]?.getD 0) (t[t.length - s.length + k]?.getD 0) := congrArg (fun o : Option Int => o.getD 0) hg
  clear hg hds hdt
  generalize s[k]?.getD 0 = x at *
  generalize t[t.length - s.length + k]?.getD 0 = y at *
  simp only [meetB, Bool.or_eq_true, beq_iff_eq] at hme
  omega

theorem adjL_length (s t is : List Int) (h1 : s.length ≤ t.length) (h2 : is.length = t.length) : (adjL s t is).length = s.length := by
  simp [adjL]; omega
theorem adjL_get (s t is : List Int) (h1 : s.length ≤ t.length) (h2 : is.length = t.length) (k : Nat) (hk : k < s.length) :
    (adjL s t is)[k]? = some (if s[k]?.getD 0 = 1 then 0 else is[t.length - s.length + k]?.getD 0) := by
  rw [adjL, List.getElem?_zipWith, List.getElem?_drop, List.getElem?_eq_getElem hk, List.getElem?_eq_getElem (by omega)]
  rfl
theorem adj_within {s t is : List Int} (hs : Dims s) (hg : goesB s t = true) (hw : withinB t is = true) : withinB s (adjL s t is) = true := by
  obtain ⟨h1, h2⟩ := goes_facts hs hg
  have hl := withinB_length hw
  have hb := (withinB_iff.1 hw).2
  rw [withinB_iff]
  refine ⟨adjL_length s t is h1 hl, fun k hk => ?_⟩
  rw [adjL_get s t is h1 hl k hk]
  simp only [Option.getD_some]
  have hd := hs.at hk
  rcases h2 k hk with h3 | h3
  · rw [if_pos h3, h3]; omega
  · by_cases h4 : s[k]?.getD 0 = 1
    · rw [if_pos h4, h4]; omega
    · rw [if_neg h4, h3]
      exact hb _ (by omega)

set_option maxHeartbeats 400000 in
theorem lies_any (a a2 a3 : Option Addr) (c c2 c3 hi : Nat) (s t is : List Int) (w : World) (h : Ints .i64 w hi a s) (h2 : Ints .i64 w hi a2 t) (h3 : Ints .i64 w hi a3 is)
    (hg : goodB s = true) (hg2 : goodB t = true) (hgo : goesB s t = true) (hw : withinB t is = true) :
    Calls Try.prog 75 #[.slice a s.length c, .slice a2 t.length c2, .slice a3 is.length c3] w fun e w' => e = .returned (.int .i64 (placeI s (adjL s t is))) ∧ w = w' := by
  have hm2 := h2.len
  have ht4 := (goodB_iff.1 hg2).1
  obtain ⟨hm, _, hc⟩ := h
  obtain ⟨hm3, _, hc3⟩ := h3
  have hD := goodB_dims hg
  have hP := (goodB_prod hg).2
  have HW := Lib.hid (adj_within hD hgo hw)
  have hle := (goes_facts hD hgo).1
  have HL := Lib.hid (withinB_length hw)
  have HAL := Lib.hid (adjL_length s t is hle HL.out)
  clear hg hw hg2 h2 hgo
  go_enter Try.func75, Try.ntmps75
  go_wp2
  go_loop [7, 13] (fun n i => ∃ k : Nat, k ≤ s.length ∧ i = .int .i64 k ∧ n = .int .i64 (placeI (s.take k) ((adjL s t is).take k))) (fun _ i => s.length - (intOf i).toNat)
  case atStart => exact ⟨0, Nat.zero_le _, rfl, by simp [placeI]⟩
  case round =>
    obtain ⟨k, hk, rfl, rfl⟩ := hrel
    by_cases hlt : k < s.length
    · have hlt2 : t.length - s.length + k < is.length := by have := HL.out; omega
      have hlt3 : k < (adjL s t is).length := by have := HAL.out; omega
      obtain ⟨b, off, rfl, _, hcell⟩ := hc k hlt
      obtain ⟨b3, off3, rfl, _, hcell3⟩ := hc3 _ hlt2
      clear hc hc3
      rw [List.getElem?_eq_getElem hlt] at hcell
      rw [List.getElem?_eq_getElem hlt2] at hcell3
      simp only [Option.getD_some] at hcell hcell3
      have hS := placeI_take_succ s (adjL s t is) k hlt HAL.out
      have hget := adjL_get s t is hle HL.out k hlt
      rw [List.getElem?_eq_getElem hlt3, List.getElem?_eq_getElem hlt, List.getElem?_eq_getElem hlt2] at hget
      simp only [Option.getD_some, Option.some.injEq] at hget
      rw [hget] at hS
      have hp1 := placeI_take_bound hD HW.out (k + 1)
      have hp2 := prodI_take_le hD (k + 1)
      rw [hS] at hp1
      have hq1 := placeI_take_bound hD HW.out k
      have hq2 := prodI_take_le hD k
      have hd1 := hD.at hlt
      obtain ⟨hd1, hd2⟩ := hd1
      have hb := (withinB_iff.1 HW.out).2 k hlt
      rw [List.getElem?_eq_getElem hlt, List.getElem?_eq_getElem hlt3, Option.getD_some, Option.getD_some, hget] at hb
      have hm0 : 0 ≤ placeI (s.take k) ((adjL s t is).take k) * s[k] := Int.mul_nonneg hq1.1 (by omega)
      obtain ⟨hp1a, hp1b⟩ := hp1
      obtain ⟨hb1, hb2⟩ := hb
      have h0 : 0 ≤ (t.length : Int) - (s.length : Int) := by omega
      have HS := Lib.hid hS
      clear hS hget
      by_cases h1 : s[k] = 1
      · have h1b : (s[k] == 1) = true := by simp [h1]
        rw [if_pos h1] at HS hp1a hp1b
        have H1 := Lib.hid h1
        clear h1 hb1 hb2
        go_wp2
        go_round
        case rel => exact ⟨k + 1, by omega, by go_num, by rw [HS.out]; first | rfl | go_num⟩
        case measure => simp [intOf]; omega
      · have h1b : (s[k] == 1) = false := by simp [h1]
        rw [if_neg h1] at HS hp1a hp1b hb1 hb2
        have H1 := Lib.hid h1
        clear h1
        go_wp2
        go_round
        case rel => exact ⟨k + 1, by omega, by go_num, by rw [HS.out]⟩
        case measure => simp [intOf]; omega
    · have hke : k = s.length := by omega
      subst hke
      have HE : Hid ((adjL s t is).take s.length = adjL s t is) := by rw [← HAL.out]; exact List.take_length
      go_wp2
      go_ret
      exact ⟨ret_int (congrArg (placeI s) HE.out), rfl⟩

end Go.Proofs.Ytiejkdnkdmanmaa
