/- Walks: shapes that go together; the shape of a product. -/
import Derived.Test.YtjjgmdnmhfoacaaMAll
set_option linter.unusedVariables false
set_option linter.unusedSimpArgs false
namespace Go.Proofs.Ytjjgmdnmhfoacaa
open Go.RowKit Go.Rt

theorem intsTake {k : IntKind} {w : World} {hi : Nat} {a : Option Addr} {xs : List Int} (h : Ints k w hi a xs) (j : Nat) : Ints k w hi a (xs.take j) :=
  ⟨by have := h.len; simp; omega, fun x hx => h.wf x (List.mem_of_mem_take hx), fun i hi' => by
    have hl : i < xs.length ∧ i < j := by simp at hi'; omega
    obtain ⟨b, off, ha, hlt, hc⟩ := h.cell i hl.1
    refine ⟨b, off, ha, hlt, ?_⟩
    rw [hc, List.getElem?_take, if_pos hl.2]⟩

/-- Do shapes go together? -/
def fitsB (xs ys : List Int) : Bool := decide (2 ≤ xs.length) && ((decide (ys.length = 2) || decide (ys.length = xs.length)) && (decide (xs[xs.length - 1]?.getD 0 = ys[ys.length - 2]?.getD 0) && (decide (ys.length ≠ xs.length) || decide (xs.take (xs.length - 2) = ys.take (ys.length - 2)))))
def outL (xs ys : List Int) : List Int := xs.take (xs.length - 1) ++ [ys[ys.length - 1]?.getD 0]
def outE (xs ys : List Int) : Int := if fitsB xs ys = true then (if goodB (outL xs ys) = true then 0 else 5) else 2
def outR (xs ys : List Int) : List Int := if outE xs ys = 0 then outL xs ys else []

set_option maxHeartbeats 1000000 in
set_option maxRecDepth 100000 in
theorem fits_any (a a2 : Option Addr) (c c2 hi : Nat) (xs ys : List Int) (w : World) (h : Ints .i64 w hi a xs) (h2 : Ints .i64 w hi a2 ys) (hx4 : xs.length ≤ 4) (hy4 : ys.length ≤ 4) (hc1 : xs.length ≤ c) (hc2 : ys.length ≤ c2) (hc3 : c ≤ 9223372036854775807) (hc4 : c2 ≤ 9223372036854775807) :
    Calls Try.prog 38 #[.slice a xs.length c, .slice a2 ys.length c2] w fun e w' => e = .returned (.bool (fitsB xs ys)) ∧ ∃ q, w' = w.drewN q := by
  have hm := h.len
  have hm2 := h2.len
  by_cases hn2 : xs.length < 2
  · have HE : Hid (fitsB xs ys = false) := Lib.hid (by unfold fitsB; rw [decide_eq_false (show ¬ 2 ≤ xs.length by omega)]; rfl)
    have i1 : (xs.length : Int) < 2 := by omega
    clear h h2 hn2
    go_enter Try.func38, Try.ntmps38
    go_upto_region 2 with fail
    go_quiet (fail)
    go_wp2
    go_ret
    exact ⟨ret_bool HE.out.symm, _, rfl⟩
  · have i1 : ¬ (xs.length : Int) < 2 := by omega
    by_cases hmm : ys.length = 2 ∨ ys.length = xs.length
    · have i2 : ¬ (ys.length : Int) < 2 := by omega
      obtain ⟨b, off, rfl, hlb, hcell⟩ := h.cell (xs.length - 1) (by omega)
      obtain ⟨b2, off2, rfl, hlb2, hcell2⟩ := h2.cell (ys.length - 2) (by omega)
      have ew1 : IntKind.i64.wrap ((xs.length : Int) - 1) = ((xs.length - 1 : Nat) : Int) := by rw [wrapI]; omega
      have ew2 : IntKind.i64.wrap ((ys.length : Int) - 2) = ((ys.length - 2 : Nat) : Int) := by rw [wrapI]; omega
      have ew3 : IntKind.i64.wrap ((xs.length : Int) - 2) = ((xs.length - 2 : Nat) : Int) := by rw [wrapI]; omega
      have eb1 : xs.length - 1 < xs.length := by omega
      have eb2 : ys.length - 2 < ys.length := by omega
      by_cases heq : xs[xs.length - 1]?.getD 0 = ys[ys.length - 2]?.getD 0
      · have e5 : (ys[ys.length - 2]?.getD 0 != ys[ys.length - 2]?.getD 0) = false := by simp
        rw [heq] at hcell
        have hl1 : (xs.take (xs.length - 2)).length = xs.length - 2 := by simp
        have hl2 : (ys.take (ys.length - 2)).length = ys.length - 2 := by simp
        have hq := fun w' (hb : Below hi w w') => Lib.hid (slicesEqual_any (some ⟨b, off, none⟩) (some ⟨b2, off2, none⟩) c c2 hi (xs.take (xs.length - 2)) (ys.take (ys.length - 2)) w' ((intsTake h _).below hb (Nat.le_refl _)) ((intsTake h2 _).below hb (Nat.le_refl _)))
        rw [hl1, hl2] at hq
        have HF : Hid (fitsB xs ys = (decide (ys.length ≠ xs.length) || decide (xs.take (xs.length - 2) = ys.take (ys.length - 2)))) := Lib.hid (by
          unfold fitsB
          rw [decide_eq_true (show 2 ≤ xs.length by omega), decide_eq_true heq]
          rcases hmm with h1 | h1
          · rw [decide_eq_true h1]; simp
          · rw [decide_eq_true h1]; simp)
        generalize ys[ys.length - 2]?.getD 0 = Y at hcell hcell2 e5
        generalize decide (xs.take (xs.length - 2) = ys.take (ys.length - 2)) = T at hq HF
        have ec1 : xs.length - 2 ≤ c := by omega
        have ec2 : ys.length - 2 ≤ c2 := by omega
        clear h h2 heq hl1 hl2
        by_cases h3 : ys.length = xs.length
        · have HE : Hid (fitsB xs ys = T) := Lib.hid (by rw [HF.out, decide_eq_false (show ¬ ys.length ≠ xs.length by omega), Bool.false_or])
          have e4 : ((ys.length : Int) != (xs.length : Int)) = false := by simp; omega
          by_cases h4 : ys.length = 2
          · have e3 : ((ys.length : Int) != 2) = false := by simp; omega
            clear h3 h4 hmm
            go_enter Try.func38, Try.ntmps38
            go_upto_region 2 with fail
            go_quiet (fail)
            go_upto_region 4 with fail
            obtain ⟨W1, hW1⟩ : ∃ W1 : World, w.drewN nq = W1 := ⟨_, rfl⟩
            have HBW : Below hi w W1 := by rw [← hW1]; exact below_drewN (Below.refl _ _) _
            rw [hW1]
            go_quiet (first | (go_at_call 49; exact Calls.quiet_of (hq _ (below_drewN HBW _)).out))
            go_wp2
            go_ret
            exact ⟨ret_bool HE.out.symm, _, by rw [← hW1]; first | rfl | exact World.drewN_drewN _ _ _⟩
          · have e3 : ((ys.length : Int) != 2) = true := by simp; omega
            clear h3 h4 hmm
            go_enter Try.func38, Try.ntmps38
            go_upto_region 2 with fail
            go_quiet (fail)
            go_upto_region 4 with fail
            obtain ⟨W1, hW1⟩ : ∃ W1 : World, w.drewN nq = W1 := ⟨_, rfl⟩
            have HBW : Below hi w W1 := by rw [← hW1]; exact below_drewN (Below.refl _ _) _
            rw [hW1]
            go_quiet (first | (go_at_call 49; exact Calls.quiet_of (hq _ (below_drewN HBW _)).out))
            go_wp2
            go_ret
            exact ⟨ret_bool HE.out.symm, _, by rw [← hW1]; first | rfl | exact World.drewN_drewN _ _ _⟩
        · have HE : Hid (fitsB xs ys = true) := Lib.hid (by rw [HF.out, decide_eq_true (show ys.length ≠ xs.length from h3), Bool.true_or])
          have e4 : ((ys.length : Int) != (xs.length : Int)) = true := by simp; omega
          have h4 : ys.length = 2 := by omega
          have e3 : ((ys.length : Int) != 2) = false := by simp; omega
          clear h3 h4 hmm
          go_enter Try.func38, Try.ntmps38
          go_upto_region 2 with fail
          go_quiet (fail)
          go_upto_region 4 with fail
          obtain ⟨W1, hW1⟩ : ∃ W1 : World, w.drewN nq = W1 := ⟨_, rfl⟩
          have HBW : Below hi w W1 := by rw [← hW1]; exact below_drewN (Below.refl _ _) _
          rw [hW1]
          go_quiet (fail)
          go_wp2
          go_ret
          exact ⟨ret_bool HE.out.symm, _, by rw [← hW1]; first | rfl | exact World.drewN_drewN _ _ _⟩
      · have HE : Hid (fitsB xs ys = false) := Lib.hid (by unfold fitsB; rw [decide_eq_false heq, Bool.false_and, Bool.and_false, Bool.and_false])
        have e5 : (xs[xs.length - 1]?.getD 0 != ys[ys.length - 2]?.getD 0) = true := by simp; exact heq
        generalize xs[xs.length - 1]?.getD 0 = X at hcell e5
        generalize ys[ys.length - 2]?.getD 0 = Y at hcell2 e5
        clear h h2 heq
        rcases hmm with h1 | h1
        · by_cases h3 : ys.length = xs.length
          · have e3 : ((ys.length : Int) != 2) = false := by simp; omega
            have e4 : ((ys.length : Int) != (xs.length : Int)) = false := by simp; omega
            clear h1 h3
            go_enter Try.func38, Try.ntmps38
            go_upto_region 2 with fail
            go_quiet (fail)
            go_wp2
            go_ret
            exact ⟨ret_bool HE.out.symm, _, rfl⟩
          · have e3 : ((ys.length : Int) != 2) = false := by simp; omega
            have e4 : ((ys.length : Int) != (xs.length : Int)) = true := by simp; omega
            clear h1 h3
            go_enter Try.func38, Try.ntmps38
            go_upto_region 2 with fail
            go_quiet (fail)
            go_wp2
            go_ret
            exact ⟨ret_bool HE.out.symm, _, rfl⟩
        · by_cases h3 : ys.length = 2
          · have e3 : ((ys.length : Int) != 2) = false := by simp; omega
            have e4 : ((ys.length : Int) != (xs.length : Int)) = false := by simp; omega
            clear h1 h3
            go_enter Try.func38, Try.ntmps38
            go_upto_region 2 with fail
            go_quiet (fail)
            go_wp2
            go_ret
            exact ⟨ret_bool HE.out.symm, _, rfl⟩
          · have e3 : ((ys.length : Int) != 2) = true := by simp; omega
            have e4 : ((ys.length : Int) != (xs.length : Int)) = false := by simp; omega
            clear h1 h3
            go_enter Try.func38, Try.ntmps38
            go_upto_region 2 with fail
            go_quiet (fail)
            go_wp2
            go_ret
            exact ⟨ret_bool HE.out.symm, _, rfl⟩
    · have HE : Hid (fitsB xs ys = false) := Lib.hid (by unfold fitsB; rw [decide_eq_false (show ¬ ys.length = 2 by omega), decide_eq_false (show ¬ ys.length = xs.length by omega), Bool.or_self, Bool.false_and, Bool.and_false])
      have e3 : ((ys.length : Int) != 2) = true := by simp; omega
      have e4 : ((ys.length : Int) != (xs.length : Int)) = true := by simp; omega
      clear h h2
      go_enter Try.func38, Try.ntmps38
      go_upto_region 2 with fail
      go_quiet (fail)
      go_wp2
      go_ret
      exact ⟨ret_bool HE.out.symm, _, rfl⟩

end Go.Proofs.Ytjjgmdnmhfoacaa
