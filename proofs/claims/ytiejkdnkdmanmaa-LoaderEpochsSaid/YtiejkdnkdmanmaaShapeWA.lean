/- Walks: law0's Numbers and Within, layer 6's small helpers. -/
import Derived.Test.YtiejkdnkdmanmaaShapeW9
set_option linter.unusedVariables false
set_option linter.unusedSimpArgs false
namespace Go.Proofs.Ytiejkdnkdmanmaa
open Go.RowKit Go.Rt

set_option maxHeartbeats 400000 in
theorem numbers_any (a : Option Addr) (c base : Nat) (xs : List Int) (w : World) (h : w.ownsRow base 3 1 (.slice a xs.length c) xs.length (xs.map (Value.int .i64))) (hn : xs.length ≤ 17592186044415) (hb : base ≤ w.heap.size) :
    Calls Try.prog 42 #[.slice a xs.length c] w fun e w' => e = .returned (.tuple #[]) ∧ w.grownBy w' (Value.slice a xs.length c).ownBlock ∧ Below base w w' := by
  obtain ⟨N, hN⟩ : ∃ N, N = xs.length := ⟨_, rfl⟩
  rw [← hN] at h hn ⊢
  have HN := Lib.hid hN
  clear hN
  go_enter Try.func42, Try.ntmps42
  go_wp2
  go_loopw [2] (fun i wr => ∃ (k : Nat) (ys : List Int), k ≤ N ∧ i = .int .i64 k ∧ wr.ownsRow base 3 1 (.slice a N c) N (ys.map (Value.int .i64)) ∧ w.grownBy wr (Value.slice a N c).ownBlock) (fun i _ => N - (intOf i).toNat)
  case atStart => exact ⟨0, xs, Nat.zero_le _, rfl, h, World.grownBy.refl _ _⟩
  case round =>
    obtain ⟨k, ys, hk, rfl, hown, hgr⟩ := hrel
    by_cases hlt : k < N
    · obtain ⟨a', c', he, hsh⟩ := own_shape hown
      injection he with he1 he2 he3
      subst he1; subst he3
      obtain ⟨g, rfl, hg1, hg2⟩ := hsh.resolve_left (by omega)
      have hold : wr.cell? ⟨g, k, none⟩ = some (.int .i64 (ys[k]?.getD 0)) := own_cell hown hlt
      have hfr := hown.frozenAt k
      have hst := hown.stored k (.int .i64 (-99))
      have HO : Hid ((wr.setCell ⟨g, k, none⟩ (.int .i64 (-99))).ownsRow base 3 1 (.slice (some ⟨g, 0, none⟩) N c) N ((ys.set k (-99)).map (Value.int .i64))) := by
        have h0 := hst.1
        rw [map_set] at h0
        exact h0
      have HG := Lib.hid (grown_trans hgr hst.2)
      clear hown hgr hst hsh he2 h
      go_wp2
      go_roundw
      case rel => exact ⟨k + 1, _, by omega, by go_num, HO.out, HG.out⟩
      case measure => simp [intOf]; omega
    · have hke : k = N := by omega
      subst hke
      have HO := Lib.hid hown
      have HG := Lib.hid hgr
      have HL : Hid (∀ j, (Value.slice a k c).ownBlock = some j → base ≤ j) := fun j hj => (h.lt j hj).1
      have hsz := hgr.size
      have hb' : base ≤ wr.heap.size := by omega
      clear hown hgr h
      go_wp2_with (at_builtin; (refine wpl_append1 46 3 .i64 infoInt Try.underlying46 base _ k ys 5 _ _ _ rfl rfl rfl HO.out rfl (by omega) hb' ?_); intro v' w1 hown1 hbel1 hg1)
      have HG1 := Lib.hid (grown_trans HG.out hg1)
      clear hown1 hbel1 hg1
      go_end0
      exact ⟨rfl, HG1.out, (Below.refl _ _).grown HG1.out hb HL.out⟩

/-- law0's Within. -/
def withinN (i n : Int) : Int := (i % 18446744073709551616) % n
theorem withinN_bound (i n : Int) (h : 1 ≤ n) : 0 ≤ withinN i n ∧ withinN i n < n :=
  ⟨Int.emod_nonneg _ (by omega), Int.emod_lt_of_pos _ (by omega)⟩

theorem within0_any (i n : Int) (w : World) (hi : -9223372036854775808 ≤ i ∧ i ≤ 9223372036854775807) (h1 : 1 ≤ n) (h2 : n ≤ 9223372036854775807) :
    Calls Try.prog 30 #[.int .i64 i, .int .i64 n] w fun e w' => e = .returned (.int .i64 (withinN i n)) ∧ w = w' := by
  have hb := withinN_bound i n h1
  go_enter Try.func30, Try.ntmps30
  go_wp2
  go_ret
  refine ⟨ret_int ?_, rfl⟩
  have e : (IntKind.u64.wrap i).tmod n = withinN i n := by
    unfold withinN
    rw [IntKind.wrap_u64, Int.tmod_eq_emod_of_nonneg (Int.emod_nonneg _ (by omega))]
  show wrap64 ((IntKind.u64.wrap i).tmod n) = withinN i n
  rw [e]
  exact IntWalk.wrap64_in _ ⟨by omega, by omega⟩

/-- A struct of layer 6's statements: four cells. -/
def twoV (aS aT aI : Option Addr) (nS nT nI cS cT cI : Nat) (n : Int) : Array Value :=
  #[.slice aS nS cS, .slice aT nT cT, .slice aI nI cI, .int .i64 n]

theorem long_any (aS aT aI : Option Addr) (nS nT nI cS cT cI : Nat) (n : Int) (w : World) (hS : nS ≤ 9223372036854775807) (hT : nT ≤ 9223372036854775807) (hI : nI ≤ 9223372036854775807) :
    Calls Try.prog 25 #[.agg (twoV aS aT aI nS nT nI cS cT cI n)] w fun e w' => e = .returned (.bool (decide (12 < nS ∨ 12 < nT ∨ 12 < nI))) ∧ Below w.heap.size w w' := by
  unfold twoV
  by_cases h1 : 12 < nS
  · have h1d : decide (12 < nS ∨ 12 < nT ∨ 12 < nI) = true := by simp; omega
    have HD := Lib.hid h1d
    clear h1d
    go_enter Try.func25, Try.ntmps25
    go_wp2
    go_ret
    exact ⟨by first | exact ret_bool rfl | exact ret_bool (by rw [Bool.eq_iff_iff]; simp only [Bool.or_eq_true, decide_eq_true_eq]; omega), (Below.refl _ _).alloc (Nat.le_refl _) _⟩
  · by_cases h2 : 12 < nT
    · have h1d : decide (12 < nS ∨ 12 < nT ∨ 12 < nI) = true := by simp; omega
      have HD := Lib.hid h1d
      clear h1d
      go_enter Try.func25, Try.ntmps25
      go_wp2
      go_ret
      exact ⟨by first | exact ret_bool rfl | exact ret_bool (by rw [Bool.eq_iff_iff]; simp only [Bool.or_eq_true, decide_eq_true_eq]; omega), (Below.refl _ _).alloc (Nat.le_refl _) _⟩
    · by_cases h3 : 12 < nI
      · have h1d : decide (12 < nS ∨ 12 < nT ∨ 12 < nI) = true := by simp; omega
        have HD := Lib.hid h1d
        clear h1d
        go_enter Try.func25, Try.ntmps25
        go_wp2
        go_ret
        exact ⟨by first | exact ret_bool rfl | exact ret_bool (by rw [Bool.eq_iff_iff]; simp only [Bool.or_eq_true, decide_eq_true_eq]; omega), (Below.refl _ _).alloc (Nat.le_refl _) _⟩
      · have h1d : decide (12 < nS ∨ 12 < nT ∨ 12 < nI) = false := by simp; omega
        have HD := Lib.hid h1d
        clear h1d
        go_enter Try.func25, Try.ntmps25
        go_wp2
        go_ret
        exact ⟨by first | exact ret_bool rfl | exact ret_bool (by rw [Bool.eq_iff_iff]; simp only [Bool.or_eq_true, decide_eq_true_eq]; omega), (Below.refl _ _).alloc (Nat.le_refl _) _⟩

set_option maxHeartbeats 400000 in
theorem wakes6_any (w : World) : Calls Try.prog 35 #[] w fun e w' => e = .returned (.bool true) ∧ Below w.heap.size w w' := by
  have HC : Hid (∀ W : World, Ints .i64 W W.heap.size (some ⟨w.heap.size, 0, none⟩) [2, 3] → Ints .i64 W W.heap.size (some ⟨w.heap.size + 1, 0, none⟩) [1, 2] →
      Calls Try.prog 33 #[.slice (some ⟨w.heap.size, 0, none⟩) 2 2, .slice (some ⟨w.heap.size + 1, 0, none⟩) 2 2] W fun e w' => e = .returned (.tuple #[.int .i64 5, .int .i64 0]) ∧ W = w') := by
    intro W h1 h2
    have h := index_any _ _ 2 2 _ _ _ W h1 h2
    have e1 : indexE [2, 3] [1, 2] = 0 := by decide
    have e2 : indexN [2, 3] [1, 2] = 5 := by decide
    rw [e1, e2] at h
    exact h
  have hwf : ∀ x ∈ ([2, 3] : List Int), (Lit.int .i64 x).wf = true := wf_dims (by decide)
  have hwf2 : ∀ x ∈ ([1, 2] : List Int), (Lit.int .i64 x).wf = true := wf_dims (by decide)
  have HF1 := Lib.hid hwf
  have HF2 := Lib.hid hwf2
  clear hwf hwf2
  go_enter Try.func35, Try.ntmps35
  go_wp2_with fail
  refine (HC.out _ ?_ ?_).mono ?_
  · refine ⟨by decide, HF1.out, fun i hi => ⟨_, 0, rfl, by simp <;> omega, ?_⟩⟩
    match i, hi with
    | 0, _ => simp [go_sem]
    | 1, _ => simp [go_sem]
  · refine ⟨by decide, HF2.out, fun i hi => ⟨_, 0, rfl, by simp <;> omega, ?_⟩⟩
    match i, hi with
    | 0, _ => simp [go_sem]
    | 1, _ => simp [go_sem]
  rintro e w' ⟨rfl, rfl⟩
  go_wp2_with (go_at_call 29; refine (num6_any _ _).mono ?_; rintro e w' ⟨rfl, rfl⟩)
  go_ret
  exact ⟨rfl, ((Below.refl _ _).alloc (Nat.le_refl _) _).alloc (by simp) _⟩

end Go.Proofs.Ytiejkdnkdmanmaa
