/- Walks: sizes of wide numbers. -/
import Derived.Test.YtlbmpdidmckgkaaWide2
import Derived.BigRegion
set_option linter.unusedVariables false
set_option linter.unusedSimpArgs false
namespace Go.Proofs.Ytlbmpdidmckgkaa
open Go.RowKit Go.Rt
attribute [local go_sem] run_add run_subI

theorem results_tc2 {fn : Func} {u p : Tmp} {ty : TypeId} (h : fn.results = #[.tmp u, .cell p ty]) (tmps : Array Value) (P : Program) (w : World) :
    (results fn tmps).run P w = ((asAddr (tmps.getD p undef)).run P w).andThen fun a w₁ => ((loadVar ty a).run P w₁).andThen fun v w₂ => .ok (.tuple #[tmps.getD u undef, v]) w₂ := by
  simp only [results, h]
  simp [Sem.run_bind, Result.andThen]
theorem results_cc {fn : Func} {p q : Tmp} {ty ty2 : TypeId} (h : fn.results = #[.cell p ty, .cell q ty2]) (tmps : Array Value) (P : Program) (w : World) :
    (results fn tmps).run P w = ((asAddr (tmps.getD p undef)).run P w).andThen fun a w₁ => ((loadVar ty a).run P w₁).andThen fun v w₂ => ((asAddr (tmps.getD q undef)).run P w₂).andThen fun a' w₃ => ((loadVar ty2 a').run P w₃).andThen fun v' w₄ => .ok (.tuple #[v, v']) w₄ := by
  simp only [results, h]
  simp [Sem.run_bind, Result.andThen]

theorem xor_max (l : Int) (l0 : 0 ≤ l) (l1 : l ≤ 18446744073709551615) : bits BinOp.xor IntKind.u64 IntKind.u64.max l = 18446744073709551615 - l := by
  obtain ⟨n, rfl⟩ := Int.eq_ofNat_of_zero_le l0
  show IntKind.u64.wrap ((BitVec.ofInt 64 IntKind.u64.max ^^^ BitVec.ofInt 64 (n : Int)).toNat : Int) = _
  have e : BitVec.ofInt 64 IntKind.u64.max = BitVec.allOnes 64 := by decide
  rw [e, BitVec.allOnes_xor, BitVec.toNat_not, ofInt_u64 n (by omega), wrapU]
  omega

/-- 2^128 less a size. -/
theorem minus_any (h l : Int) (w : World) (h0 : 0 ≤ h) (h1 : h ≤ 18446744073709551615) (l0 : 0 ≤ l) (l1 : l ≤ 18446744073709551615) :
    Calls Try.prog 77 #[.agg #[.int .u64 h, .int .u64 l]] w fun e w' => e = .returned (.agg #[.int .u64 ((340282366920938463463374607431768211456 - V h l) % 340282366920938463463374607431768211456 / 18446744073709551616), .int .u64 ((340282366920938463463374607431768211456 - V h l) % 340282366920938463463374607431768211456 % 18446744073709551616)]) ∧ Below w.heap.size w w' := by
  have x1 := xor_max l l0 l1
  have x2 := xor_max h h0 h1
  obtain ⟨HI, hH⟩ : ∃ y, (340282366920938463463374607431768211456 - V h l) % 340282366920938463463374607431768211456 / 18446744073709551616 = y := ⟨_, rfl⟩
  obtain ⟨LO, hLO⟩ : ∃ y, (340282366920938463463374607431768211456 - V h l) % 340282366920938463463374607431768211456 % 18446744073709551616 = y := ⟨_, rfl⟩
  rw [hH, hLO]
  unfold V at hH hLO
  have e1 : (18446744073709551615 - l + 1) % 18446744073709551616 = LO := by omega
  have e2 : IntKind.u64.wrap (18446744073709551615 - h + (18446744073709551615 - l + 1) / 18446744073709551616) = HI := by rw [wrapU]; omega
  have e3 : 0 ≤ 18446744073709551615 - l := by omega
  clear hH hLO
  go_enter Try.func77, Try.ntmps77
  go_wp2
  exact bodyPost_ret (v := .agg #[.int .u64 HI, .int .u64 LO]) (by rw [results_c1 rfl]; go_simp <;> omega) rfl ⟨rfl, (by (repeat' (first | exact Below.refl _ _ | refine Below.drew ?_ | refine Below.setCell ?_ (by first | omega | (simp <;> omega)) _ | refine Below.alloc ?_ (by first | omega | (simp <;> omega)) _)))⟩

def A (h l : Int) : Int := if V h l < 0 then -V h l else V h l
theorem A_bounds (h l : Int) (a : WR h l) : 0 ≤ A h l ∧ A h l ≤ 170141183460469231731687303715884105728 := by
  obtain ⟨a0, a1, a2, a3⟩ := a
  unfold A V
  split <;> omega
/-- The size, and whether it is below 0. -/
theorem of_any (h l : Int) (w : World) (a : WR h l) :
    Calls Try.prog 58 #[.agg #[.int .i64 h, .int .u64 l]] w fun e w' => e = .returned (.tuple #[.bool (decide (h < 0)), .agg #[.int .u64 (A h l / 18446744073709551616), .int .u64 (A h l % 18446744073709551616)]]) ∧ Below w.heap.size w w' := by
  obtain ⟨a0, a1, a2, a3⟩ := a
  by_cases hn : h < 0
  · rw [decide_eq_true hn]
    have hw : IntKind.u64.wrap h = h + 18446744073709551616 := by rw [wrapU]; omega
    have hA : A h l = -(h * 18446744073709551616 + l) := by unfold A V; rw [if_pos (by omega)]
    have hm := fun w => Lib.hid (minus_any (h + 18446744073709551616) l w (by omega) (by omega) a2 a3)
    have e0 : (340282366920938463463374607431768211456 - V (h + 18446744073709551616) l) % 340282366920938463463374607431768211456 = A h l := by rw [hA]; unfold V; omega
    rw [e0] at hm
    obtain ⟨HI, hH⟩ : ∃ y, A h l / 18446744073709551616 = y := ⟨_, rfl⟩
    obtain ⟨LO, hLO⟩ : ∃ y, A h l % 18446744073709551616 = y := ⟨_, rfl⟩
    rw [hH, hLO] at hm
    rw [hH, hLO]
    clear hH hLO e0 hA
    go_enter Try.func58, Try.ntmps58
    go_wp2_with (first
      | (go_at_call 77; go_loud (refine (hm _).out.mono ?_; rintro e w1 ⟨rfl, hb⟩; have HB := Lib.hid hb; have hs := hb.size; (try simp at hs); have j0 := (hb.cell (p := ⟨w.heap.size + 1, 0, none⟩) (by first | omega | (simp <;> omega))); have j1 := (hb.cell (p := ⟨w.heap.size + 1, 1, none⟩) (by first | omega | (simp <;> omega))); have g0 := (hb.frozen (p := ⟨w.heap.size + 1, 0, none⟩) (by first | omega | (simp <;> omega))); have g1 := (hb.frozen (p := ⟨w.heap.size + 1, 1, none⟩) (by first | omega | (simp <;> omega))); clear hb)))
    (try simp only [Exit.inBlock, Exit.then])
    refine bodyPost_ret (v := .tuple #[.bool true, .agg #[.int .u64 HI, .int .u64 LO]]) (by rw [results_tc2 rfl]; go_simp) rfl ⟨rfl, ?_⟩
    iterate 2 refine Below.setCell ?_ (by first | omega | (simp <;> omega)) _
    exact Below.trans (by (repeat' (first | exact Below.refl _ _ | refine Below.drew ?_ | refine Below.setCell ?_ (by first | omega | (simp <;> omega)) _ | refine Below.alloc ?_ (by first | omega | (simp <;> omega)) _))) (HB.out.mono (by first | omega | (simp <;> omega)))
  · rw [decide_eq_false hn]
    have hw : IntKind.u64.wrap h = h := by rw [wrapU]; omega
    have hA : A h l = h * 18446744073709551616 + l := by unfold A V; rw [if_neg (by omega)]
    have hH : A h l / 18446744073709551616 = h := by omega
    have hLO : A h l % 18446744073709551616 = l := by omega
    rw [hH, hLO]
    clear hH hLO hA
    go_enter Try.func58, Try.ntmps58
    go_wp2
    go_region
    go_wp2
    (try simp only [Exit.inBlock, Exit.then])
    exact bodyPost_ret (v := .tuple #[.bool false, .agg #[.int .u64 h, .int .u64 l]]) (by rw [results_tc2 rfl]; go_simp) rfl ⟨rfl, (by (repeat' (first | exact Below.refl _ _ | refine Below.drew ?_ | refine Below.setCell ?_ (by first | omega | (simp <;> omega)) _ | refine Below.alloc ?_ (by first | omega | (simp <;> omega)) _)))⟩

theorem div0_any (lo y : Int) (w : World) (l0 : 0 ≤ lo) (l1 : lo ≤ 18446744073709551615) (y0 : 1 ≤ y) (y1 : y ≤ 18446744073709551615) :
    Calls Try.prog 78 #[.int .u64 0, .int .u64 lo, .int .u64 y] w fun e w' => e = .returned (.tuple #[.int .u64 (lo / y), .int .u64 (lo % y)]) ∧ Below w.heap.size w w' := by
  have hy0 : (y == 0) = false := by simp; omega
  have hy1 : ¬ y ≤ 0 := by omega
  have hy2 : ¬ y = 0 := by omega
  go_enter Try.func78, Try.ntmps78
  go_wp2
  go_region
  go_wp2
  (try simp only [Exit.inBlock, Exit.then])
  exact bodyPost_ret (by rw [results_tmp2 rfl]; go_simp) rfl ⟨rfl, Below.drew (Below.refl _ _)⟩

/-- A size with a sign, as a number. -/
theorem told_in (neg : Bool) (n : Int) (w : World) (n0 : 0 ≤ n) (hn : if neg = true then n ≤ 170141183460469231731687303715884105728 else n < 170141183460469231731687303715884105728) :
    Calls Try.prog 60 #[.bool neg, .agg #[.int .u64 (n / 18446744073709551616), .int .u64 (n % 18446744073709551616)]] w (RetWE w ((if neg = true then -n else n) / 18446744073709551616) ((if neg = true then -n else n) % 18446744073709551616) 0) := by
  have hHb : 0 ≤ n / 18446744073709551616 ∧ n / 18446744073709551616 ≤ 9223372036854775808 := by split at hn <;> omega
  have hLb : 0 ≤ n % 18446744073709551616 ∧ n % 18446744073709551616 ≤ 18446744073709551615 := by omega
  have hm := fun w => Lib.hid (minus_any (n / 18446744073709551616) (n % 18446744073709551616) w hHb.1 (by omega) hLb.1 hLb.2)
  have e0 : V (n / 18446744073709551616) (n % 18446744073709551616) = n := by unfold V; omega
  rw [e0] at hm
  cases neg with
  | false =>
    simp only [Bool.false_eq_true, if_false] at hn ⊢
    obtain ⟨HI, hH⟩ : ∃ y, n / 18446744073709551616 = y := ⟨_, rfl⟩
    obtain ⟨LO, hLO⟩ : ∃ y, n % 18446744073709551616 = y := ⟨_, rfl⟩
    rw [hH, hLO]
    have e1 : (HI / 9223372036854775808 == 1) = false := by simp; omega
    have e2 : RowKit.wrap64 HI = HI := by unfold RowKit.wrap64; omega
    have e3 : 0 ≤ HI := by omega
    have e5 : HI ≤ 9223372036854775807 := by omega
    have e4 : IntKind.i64.wrap HI = HI := by rw [IntKind.wrap_i64]; omega
    clear hH hLO hHb hLb hm e0
    go_enter Try.func60, Try.ntmps60
    go_wp2
    exact bodyPost_ret (v := .tuple #[.agg #[.int .i64 HI, .int .u64 LO], .int .i64 0]) (by rw [results_ct rfl]; go_simp) rfl ⟨rfl, (by (repeat' (first | exact Below.refl _ _ | refine Below.drew ?_ | refine Below.setCell ?_ (by first | omega | (simp <;> omega)) _ | refine Below.alloc ?_ (by first | omega | (simp <;> omega)) _)))⟩
  | true =>
    simp only [if_true] at hn ⊢
    obtain ⟨HI, hH⟩ : ∃ y, n / 18446744073709551616 = y := ⟨_, rfl⟩
    obtain ⟨LO, hLO⟩ : ∃ y, n % 18446744073709551616 = y := ⟨_, rfl⟩
    obtain ⟨HM, hHM⟩ : ∃ y, (340282366920938463463374607431768211456 - n) % 340282366920938463463374607431768211456 / 18446744073709551616 = y := ⟨_, rfl⟩
    obtain ⟨LM, hLM⟩ : ∃ y, (340282366920938463463374607431768211456 - n) % 340282366920938463463374607431768211456 % 18446744073709551616 = y := ⟨_, rfl⟩
    rw [hH, hLO, hHM, hLM] at hm
    rw [hH, hLO]
    have e6 : RowKit.wrap64 HM = -n / 18446744073709551616 := by unfold RowKit.wrap64; omega
    have e7 : LM = -n % 18446744073709551616 := by omega
    have e8 : 0 ≤ HM ∧ HM ≤ 18446744073709551615 := by omega
    obtain ⟨e8a, e8b⟩ := e8
    rw [← e7, ← e6]
    have e3 : 0 ≤ HI := by omega
    by_cases hT : n = 170141183460469231731687303715884105728
    · have e1 : (HI / 9223372036854775808 == 1) = true := by simp; omega
      have e5 : HI = 9223372036854775808 := by omega
      have e9 : LO = 0 := by omega
      clear hH hLO hHb hLb hHM hLM e0 e6 e7
      subst e5; subst e9
      go_enter Try.func60, Try.ntmps60
      go_wp2_with (first
        | (go_at_call 77; go_loud (refine (hm _).out.mono ?_; rintro e w1 ⟨rfl, hb⟩; have HB := Lib.hid hb; have hs := hb.size; (try simp at hs); have j00 := (hb.cell (p := ⟨w.heap.size, 0, none⟩) (by first | omega | (simp <;> omega))); have g00 := (hb.frozen (p := ⟨w.heap.size, 0, none⟩) (by first | omega | (simp <;> omega))); have j01 := (hb.cell (p := ⟨w.heap.size, 1, none⟩) (by first | omega | (simp <;> omega))); have g01 := (hb.frozen (p := ⟨w.heap.size, 1, none⟩) (by first | omega | (simp <;> omega))); have j10 := (hb.cell (p := ⟨w.heap.size + 1, 0, none⟩) (by first | omega | (simp <;> omega))); have g10 := (hb.frozen (p := ⟨w.heap.size + 1, 0, none⟩) (by first | omega | (simp <;> omega))); have j11 := (hb.cell (p := ⟨w.heap.size + 1, 1, none⟩) (by first | omega | (simp <;> omega))); have g11 := (hb.frozen (p := ⟨w.heap.size + 1, 1, none⟩) (by first | omega | (simp <;> omega))); clear hb)))
      refine bodyPost_ret (v := .tuple #[.agg #[.int .i64 (RowKit.wrap64 HM), .int .u64 LM], .int .i64 0]) (by rw [results_ct rfl]; go_simp) rfl ⟨rfl, ?_⟩
      iterate 4 refine Below.setCell ?_ (by first | omega | (simp <;> omega)) _
      exact Below.trans (by (repeat' (first | exact Below.refl _ _ | refine Below.drew ?_ | refine Below.setCell ?_ (by first | omega | (simp <;> omega)) _ | refine Below.alloc ?_ (by first | omega | (simp <;> omega)) _))) (HB.out.mono (by first | omega | (simp <;> omega)))
    · have e1 : (HI / 9223372036854775808 == 1) = false := by simp; omega
      clear hH hLO hHb hLb hHM hLM e0 e6 e7
      go_enter Try.func60, Try.ntmps60
      go_wp2_with (first
        | (go_at_call 77; go_loud (refine (hm _).out.mono ?_; rintro e w1 ⟨rfl, hb⟩; have HB := Lib.hid hb; have hs := hb.size; (try simp at hs); have j00 := (hb.cell (p := ⟨w.heap.size, 0, none⟩) (by first | omega | (simp <;> omega))); have g00 := (hb.frozen (p := ⟨w.heap.size, 0, none⟩) (by first | omega | (simp <;> omega))); have j01 := (hb.cell (p := ⟨w.heap.size, 1, none⟩) (by first | omega | (simp <;> omega))); have g01 := (hb.frozen (p := ⟨w.heap.size, 1, none⟩) (by first | omega | (simp <;> omega))); have j10 := (hb.cell (p := ⟨w.heap.size + 1, 0, none⟩) (by first | omega | (simp <;> omega))); have g10 := (hb.frozen (p := ⟨w.heap.size + 1, 0, none⟩) (by first | omega | (simp <;> omega))); have j11 := (hb.cell (p := ⟨w.heap.size + 1, 1, none⟩) (by first | omega | (simp <;> omega))); have g11 := (hb.frozen (p := ⟨w.heap.size + 1, 1, none⟩) (by first | omega | (simp <;> omega))); clear hb)))
      refine bodyPost_ret (v := .tuple #[.agg #[.int .i64 (RowKit.wrap64 HM), .int .u64 LM], .int .i64 0]) (by rw [results_ct rfl]; go_simp) rfl ⟨rfl, ?_⟩
      iterate 4 refine Below.setCell ?_ (by first | omega | (simp <;> omega)) _
      exact Below.trans (by (repeat' (first | exact Below.refl _ _ | refine Below.drew ?_ | refine Below.setCell ?_ (by first | omega | (simp <;> omega)) _ | refine Below.alloc ?_ (by first | omega | (simp <;> omega)) _))) (HB.out.mono (by first | omega | (simp <;> omega)))

theorem told_out (neg : Bool) (n : Int) (w : World) (n0 : 0 ≤ n) (n1 : n < 340282366920938463463374607431768211456) (hn : if neg = true then 170141183460469231731687303715884105728 < n else 170141183460469231731687303715884105728 ≤ n) :
    Calls Try.prog 60 #[.bool neg, .agg #[.int .u64 (n / 18446744073709551616), .int .u64 (n % 18446744073709551616)]] w (RetWE w 0 0 3) := by
  obtain ⟨HI, hH⟩ : ∃ y, n / 18446744073709551616 = y := ⟨_, rfl⟩
  obtain ⟨LO, hLO⟩ : ∃ y, n % 18446744073709551616 = y := ⟨_, rfl⟩
  rw [hH, hLO]
  have e1 : (HI / 9223372036854775808 == 1) = true := by simp; split at hn <;> omega
  have e3 : 0 ≤ HI := by omega
  cases neg with
  | false =>
    clear hH hLO
    go_enter Try.func60, Try.ntmps60
    go_wp2
    exact bodyPost_ret (v := .tuple #[.agg #[.int .i64 0, .int .u64 0], .int .i64 3]) (by rw [results_ct rfl]; go_simp) rfl ⟨rfl, (by (repeat' (first | exact Below.refl _ _ | refine Below.drew ?_ | refine Below.setCell ?_ (by first | omega | (simp <;> omega)) _ | refine Below.alloc ?_ (by first | omega | (simp <;> omega)) _)))⟩
  | true =>
    simp only [if_true] at hn
    by_cases h1 : HI = 9223372036854775808
    · have h2 : ¬ LO = 0 := by omega
      have h3 : (LO == 0) = false := by simp; exact h2
      clear hH hLO
      subst h1
      go_enter Try.func60, Try.ntmps60
      go_wp2
      exact bodyPost_ret (v := .tuple #[.agg #[.int .i64 0, .int .u64 0], .int .i64 3]) (by rw [results_ct rfl]; go_simp) rfl ⟨rfl, (by (repeat' (first | exact Below.refl _ _ | refine Below.drew ?_ | refine Below.setCell ?_ (by first | omega | (simp <;> omega)) _ | refine Below.alloc ?_ (by first | omega | (simp <;> omega)) _)))⟩
    · have h3 : (HI == 9223372036854775808) = false := by simp; exact h1
      clear hH hLO
      go_enter Try.func60, Try.ntmps60
      go_wp2
      exact bodyPost_ret (v := .tuple #[.agg #[.int .i64 0, .int .u64 0], .int .i64 3]) (by rw [results_ct rfl]; go_simp) rfl ⟨rfl, (by (repeat' (first | exact Below.refl _ _ | refine Below.drew ?_ | refine Below.setCell ?_ (by first | omega | (simp <;> omega)) _ | refine Below.alloc ?_ (by first | omega | (simp <;> omega)) _)))⟩

theorem less_any (h l h' l' : Int) (w : World) (l0 : 0 ≤ l) (l1 : l ≤ 18446744073709551615) (l0' : 0 ≤ l') (l1' : l' ≤ 18446744073709551615) :
    Calls Try.prog 51 #[.agg #[.int .u64 h, .int .u64 l], .agg #[.int .u64 h', .int .u64 l']] w fun e w' => e = .returned (.bool (decide (V h l < V h' l'))) ∧ Below w.heap.size w w' := by
  have e1 : V h l = h * 18446744073709551616 + l := rfl
  have e2 : V h' l' = h' * 18446744073709551616 + l' := rfl
  rcases Int.lt_trichotomy h h' with h1 | h1 | h1
  · have e : decide (V h l < V h' l') = true := decide_eq_true (by omega)
    rw [e]
    clear e e1 e2
    go_enter Try.func51, Try.ntmps51
    go_wp2
    go_ret
    exact ⟨rfl, (by (repeat' (first | exact Below.refl _ _ | refine Below.drew ?_ | refine Below.setCell ?_ (by first | omega | (simp <;> omega)) _ | refine Below.alloc ?_ (by first | omega | (simp <;> omega)) _)))⟩
  · subst h1
    have e : decide (V h l < V h l') = decide (l < l') := by rw [decide_eq_decide]; omega
    rw [e]
    clear e e1 e2
    go_enter Try.func51, Try.ntmps51
    go_wp2
    go_ret
    exact ⟨rfl, (by (repeat' (first | exact Below.refl _ _ | refine Below.drew ?_ | refine Below.setCell ?_ (by first | omega | (simp <;> omega)) _ | refine Below.alloc ?_ (by first | omega | (simp <;> omega)) _)))⟩
  · have e : decide (V h l < V h' l') = false := decide_eq_false (by omega)
    have h2 : ¬ h < h' := by omega
    have h3 : ¬ h = h' := by omega
    have h4 : (h == h') = false := by simp; exact h3
    rw [e]
    clear e e1 e2
    go_enter Try.func51, Try.ntmps51
    go_wp2
    go_ret
    exact ⟨rfl, (by (repeat' (first | exact Below.refl _ _ | refine Below.drew ?_ | refine Below.setCell ?_ (by first | omega | (simp <;> omega)) _ | refine Below.alloc ?_ (by first | omega | (simp <;> omega)) _)))⟩

theorem szsub_any (h l h' l' : Int) (w : World) (h0 : 0 ≤ h) (h1 : h ≤ 18446744073709551615) (l0 : 0 ≤ l) (l1 : l ≤ 18446744073709551615) (h0' : 0 ≤ h') (h1' : h' ≤ 18446744073709551615) (l0' : 0 ≤ l') (l1' : l' ≤ 18446744073709551615) :
    Calls Try.prog 50 #[.agg #[.int .u64 h, .int .u64 l], .agg #[.int .u64 h', .int .u64 l']] w fun e w' => e = .returned (.agg #[.int .u64 ((V h l - V h' l') % 340282366920938463463374607431768211456 / 18446744073709551616), .int .u64 ((V h l - V h' l') % 340282366920938463463374607431768211456 % 18446744073709551616)]) ∧ Below w.heap.size w w' := by
  obtain ⟨HI, hH⟩ : ∃ y, (V h l - V h' l') % 340282366920938463463374607431768211456 / 18446744073709551616 = y := ⟨_, rfl⟩
  obtain ⟨LO, hLO⟩ : ∃ y, (V h l - V h' l') % 340282366920938463463374607431768211456 % 18446744073709551616 = y := ⟨_, rfl⟩
  rw [hH, hLO]
  unfold V at hH hLO
  have e1 : (l - l') % 18446744073709551616 = LO := by omega
  obtain ⟨B, hB⟩ : ∃ y, -((l - l') / 18446744073709551616) = y := ⟨_, rfl⟩
  have e2 : (h - h' - B) % 18446744073709551616 = HI := by omega
  have e3 : 0 ≤ B := by omega
  have e4 : B ≤ 1 := by omega
  clear hH hLO
  go_enter Try.func50, Try.ntmps50
  go_wp2
  exact bodyPost_ret (v := .agg #[.int .u64 HI, .int .u64 LO]) (by rw [results_c1 rfl]; go_simp <;> omega) rfl ⟨rfl, (by (repeat' (first | exact Below.refl _ _ | refine Below.drew ?_ | refine Below.setCell ?_ (by first | omega | (simp <;> omega)) _ | refine Below.alloc ?_ (by first | omega | (simp <;> omega)) _)))⟩

theorem next_any (h l : Int) (w : World) (h0 : 0 ≤ h) (h1 : h ≤ 18446744073709551615) (l0 : 0 ≤ l) (l1 : l ≤ 18446744073709551615) :
    Calls Try.prog 73 #[.agg #[.int .u64 h, .int .u64 l]] w fun e w' => e = .returned (.agg #[.int .u64 ((V h l + 1) % 340282366920938463463374607431768211456 / 18446744073709551616), .int .u64 ((V h l + 1) % 340282366920938463463374607431768211456 % 18446744073709551616)]) ∧ Below w.heap.size w w' := by
  obtain ⟨HI, hH⟩ : ∃ y, (V h l + 1) % 340282366920938463463374607431768211456 / 18446744073709551616 = y := ⟨_, rfl⟩
  obtain ⟨LO, hLO⟩ : ∃ y, (V h l + 1) % 340282366920938463463374607431768211456 % 18446744073709551616 = y := ⟨_, rfl⟩
  rw [hH, hLO]
  unfold V at hH hLO
  have e1 : (l + 1) % 18446744073709551616 = LO := by omega
  have e2 : IntKind.u64.wrap (h + (l + 1) / 18446744073709551616) = HI := by rw [wrapU]; omega
  clear hH hLO
  go_enter Try.func73, Try.ntmps73
  go_wp2
  exact bodyPost_ret (v := .agg #[.int .u64 HI, .int .u64 LO]) (by rw [results_c1 rfl]; go_simp <;> omega) rfl ⟨rfl, (by (repeat' (first | exact Below.refl _ _ | refine Below.drew ?_ | refine Below.setCell ?_ (by first | omega | (simp <;> omega)) _ | refine Below.alloc ?_ (by first | omega | (simp <;> omega)) _)))⟩
end Go.Proofs.Ytlbmpdidmckgkaa
