/- Walks: wide numbers, rounded. -/
import Derived.Test.YtadlnmckcnfacaaRows
import Derived.Test.YtadlnmckcnfacaaBase
import Derived.Test.YtadlnmckcnfacaaEnv
import Derived.Test.YtadlnmckcnfacaaOpen
import Derived.Test.YtadlnmckcnfacaaShape
import Derived.Test.YtadlnmckcnfacaaFr
import Derived.Test.YtadlnmckcnfacaaFrJ
import Derived.Test.YtadlnmckcnfacaaMTake
import Derived.Test.YtadlnmckcnfacaaParts
import Derived.BigQuiet
import Derived.BigRegion
import Derived.ChangeKeysEq
import Derived.Deep.Cut
import Derived.Deep.CutBlock
import Derived.Deep.CutRange
import Derived.Deep.LoopGhost
import Derived.Deep.RegionHeld3
import Derived.Deep.RegionWith
import Derived.Laws.BitsAllLaws
import Derived.Laws.BitsLemmas
import Derived.Laws.Externs
import Derived.Lib.BitFns
import Derived.Lib.Slices
import Derived.Lib.Small
import Derived.Lib.Strings
import Derived.Lib.Walk
import Derived.Shelf.Spec.BitsCarry
import Derived.Sort.AtCall
import Derived.WalkMore
set_option linter.unusedVariables false
set_option linter.unusedSimpArgs false
namespace Go.Proofs.Ytadlnmckcnfacaa
open Go.RowKit Go.Rt
set_option maxRecDepth 100000
/-- The number that two words say. -/
def V (h l : Int) : Int := h * 18446744073709551616 + l
structure WR (h l : Int) : Prop where
  h0 : -9223372036854775808 ≤ h
  h1 : h ≤ 9223372036854775807
  l0 : 0 ≤ l
  l1 : l ≤ 18446744073709551615
def inR (s : Int) : Prop := -170141183460469231731687303715884105728 ≤ s ∧ s ≤ 170141183460469231731687303715884105727
theorem wrapU (y : Int) : IntKind.u64.wrap y = y % 18446744073709551616 := by
  simp [IntKind.wrap, IntKind.signed, IntKind.bits]
theorem run_add (x y c : Int) (hx : 0 ≤ x) (hy : 0 ≤ y) (hc0 : 0 ≤ c) (hc : c ≤ 1) (w : World) :
    (callFunc 74 #[.int .u64 x, .int .u64 y, .int .u64 c]).run Try.prog w = .ok (.value (.tuple #[.int .u64 ((x + y + c) % 18446744073709551616), .int .u64 ((x + y + c) / 18446744073709551616)])) w := by
  rw [run_callFunc_extern Try.func74 (by kernel_rfl) (by kernel_rfl) (by kernel_rfl) (e := add64Entry) (by kernel_rfl), run_add64 x y c hx hy hc0 hc]
  rfl
theorem run_sub (x y b : Nat) (hb : b ≤ 1) (w : World) :
    (callFunc 107 #[.int .u64 x, .int .u64 y, .int .u64 b]).run Try.prog w =
      .ok (.value (.tuple #[.int .u64 (((x + 18446744073709551616 - y - b) % 18446744073709551616 : Nat) : Int), .int .u64 ((if x < y + b then 1 else 0 : Nat) : Int)])) w := by
  rw [run_callFunc_extern Try.func107 (by kernel_rfl) (by kernel_rfl) (by kernel_rfl) (e := sub64Entry) (by kernel_rfl), run_sub64 x y b hb]
  rfl
theorem run_subI (x y b : Int) (hx : 0 ≤ x) (hx1 : x ≤ 18446744073709551615) (hy : 0 ≤ y) (hy1 : y ≤ 18446744073709551615) (hb0 : 0 ≤ b) (hb : b ≤ 1) (w : World) :
    (callFunc 107 #[.int .u64 x, .int .u64 y, .int .u64 b]).run Try.prog w = .ok (.value (.tuple #[.int .u64 ((x - y - b) % 18446744073709551616), .int .u64 (-((x - y - b) / 18446744073709551616))])) w := by
  obtain ⟨X, rfl⟩ := Int.eq_ofNat_of_zero_le hx
  obtain ⟨Y, rfl⟩ := Int.eq_ofNat_of_zero_le hy
  obtain ⟨B, rfl⟩ := Int.eq_ofNat_of_zero_le hb0
  have := run_sub X Y B (by omega) w
  rw [this]
  have e1 : (((X + 18446744073709551616 - Y - B) % 18446744073709551616 : Nat) : Int) = ((X : Int) - Y - B) % 18446744073709551616 := by omega
  have e2 : ((if X < Y + B then 1 else 0 : Nat) : Int) = -(((X : Int) - Y - B) / 18446744073709551616) := by split <;> omega
  rw [e1, e2]
end Go.Proofs.Ytadlnmckcnfacaa
namespace Go.Proofs.Ytadlnmckcnfacaa
open Go.RowKit Go.Rt
set_option maxRecDepth 100000
attribute [local go_sem] run_add run_subI
def RetW (w : World) (h l : Int) (e : Ending) (w' : World) : Prop := e = .returned (.agg #[.int .i64 h, .int .u64 l]) ∧ Below w.heap.size w w'
def RetWE (w : World) (h l z : Int) (e : Ending) (w' : World) : Prop := e = .returned (.tuple #[.agg #[.int .i64 h, .int .u64 l], .int .i64 z]) ∧ Below w.heap.size w w'
theorem results_c1 {fn : Func} {p : Tmp} {ty : TypeId} (h : fn.results = #[.cell p ty]) (tmps : Array Value) (P : Program) (w : World) :
    (results fn tmps).run P w = ((asAddr (tmps.getD p undef)).run P w).andThen fun a w₁ => (loadVar ty a).run P w₁ := by
  simp only [results, h]
  simp [Sem.run_bind, Result.andThen]
theorem results_ct {fn : Func} {p z : Tmp} {ty : TypeId} (h : fn.results = #[.cell p ty, .tmp z]) (tmps : Array Value) (P : Program) (w : World) :
    (results fn tmps).run P w = ((asAddr (tmps.getD p undef)).run P w).andThen fun a w₁ => ((loadVar ty a).run P w₁).andThen fun v w₂ => .ok (.tuple #[v, tmps.getD z undef]) w₂ := by
  simp only [results, h]
  simp [Sem.run_bind, Result.andThen]
theorem from_any (x : Int) (w : World) (h0 : -9223372036854775808 ≤ x) (h1 : x ≤ 9223372036854775807) :
    Calls Try.prog 49 #[.int .i64 x] w (RetW w (x / 9223372036854775808) (x % 18446744073709551616)) := by
  have hw : IntKind.u64.wrap x = x % 18446744073709551616 := wrapU x
  go_enter Try.func49, Try.ntmps49
  go_wp2
  exact bodyPost_ret (v := .agg #[.int .i64 (x / 9223372036854775808), .int .u64 (x % 18446744073709551616)]) (by rw [results_c1 rfl]; go_simp) rfl ⟨rfl, (by (repeat' (first | exact Below.refl _ _ | refine Below.drew ?_ | refine Below.setCell ?_ (by first | omega | (simp <;> omega)) _ | refine Below.alloc ?_ (by first | omega | (simp <;> omega)) _)))⟩
theorem add_in (h l h' l' : Int) (w : World) (a : WR h l) (b : WR h' l') (hin : inR (V h l + V h' l')) :
    Calls Try.prog 39 #[.agg #[.int .i64 h, .int .u64 l], .agg #[.int .i64 h', .int .u64 l']] w (RetWE w ((V h l + V h' l') / 18446744073709551616) ((V h l + V h' l') % 18446744073709551616) 0) := by
  obtain ⟨a0, a1, a2, a3⟩ := a
  obtain ⟨b0, b1, b2, b3⟩ := b
  unfold inR V at hin
  have hL : V h l + V h' l' = V h l + V h' l' := rfl
  obtain ⟨HI, hH⟩ : ∃ y, (V h l + V h' l') / 18446744073709551616 = y := ⟨_, rfl⟩
  obtain ⟨LO, hLO⟩ : ∃ y, (V h l + V h' l') % 18446744073709551616 = y := ⟨_, rfl⟩
  rw [hH, hLO]
  unfold V at hH hLO
  have e1 : RowKit.wrap64 (RowKit.wrap64 (h + h') + (l + l') / 18446744073709551616) = HI := by unfold RowKit.wrap64; omega
  have e2 : (l + l') % 18446744073709551616 = LO := by omega
  have e0 : h + h' + (l + l') / 18446744073709551616 = HI := by omega
  have es : h < 0 ∨ ¬ h < 0 := by omega
  have es' : h' < 0 ∨ ¬ h' < 0 := by omega
  have eh : HI < 0 ∨ ¬ HI < 0 := by omega
  have hk : (h < 0 ∧ h' < 0 → HI < 0) ∧ (¬ h < 0 ∧ ¬ h' < 0 → ¬ HI < 0) := by constructor <;> intro hh <;> omega
  clear hH hLO hin
  rcases es with es | es <;> rcases es' with es' | es' <;> rcases eh with eh | eh
  all_goals first
    | (exfalso; obtain ⟨k1, k2⟩ := hk; first | exact eh (k1 ⟨es, es'⟩) | exact k2 ⟨es, es'⟩ eh)
    | (clear hk
       go_enter Try.func39, Try.ntmps39
       go_wp2
       exact bodyPost_ret (v := .tuple #[.agg #[.int .i64 HI, .int .u64 LO], .int .i64 0]) (by rw [results_ct rfl]; go_simp <;> omega) rfl ⟨rfl, (by (repeat' (first | exact Below.refl _ _ | refine Below.drew ?_ | refine Below.setCell ?_ (by first | omega | (simp <;> omega)) _ | refine Below.alloc ?_ (by first | omega | (simp <;> omega)) _)))⟩)
theorem small_any (h l : Int) (w : World) (a : WR h l) :
    Calls Try.prog 86 #[.agg #[.int .i64 h, .int .u64 l]] w fun e w' => e = .returned (.tuple #[.int .i64 (if -9223372036854775808 ≤ V h l ∧ V h l ≤ 9223372036854775807 then V h l else 0), .bool (decide (-9223372036854775808 ≤ V h l ∧ V h l ≤ 9223372036854775807))]) ∧ Below w.heap.size w w' := by
  obtain ⟨a0, a1, a2, a3⟩ := a
  by_cases hr : -9223372036854775808 ≤ V h l ∧ V h l ≤ 9223372036854775807
  · rw [if_pos hr, decide_eq_true hr]
    unfold V at hr ⊢
    have e1 : RowKit.wrap64 l = h * 18446744073709551616 + l := by unfold RowKit.wrap64; omega
    have e2 : (h * 18446744073709551616 + l) / 9223372036854775808 = h := by omega
    go_enter Try.func86, Try.ntmps86
    go_wp2
    exact bodyPost_ret (by rw [results_tmp2 rfl]; go_simp <;> omega) rfl ⟨rfl, (by (repeat' (first | exact Below.refl _ _ | refine Below.drew ?_ | refine Below.setCell ?_ (by first | omega | (simp <;> omega)) _ | refine Below.alloc ?_ (by first | omega | (simp <;> omega)) _)))⟩
  · rw [if_neg hr, decide_eq_false hr]
    unfold V at hr
    obtain ⟨Z, hZ⟩ : ∃ y, RowKit.wrap64 l = y := ⟨_, rfl⟩
    have e2 : ¬ Z / 9223372036854775808 = h := by rw [← hZ]; unfold RowKit.wrap64; omega
    have e3 : (Z / 9223372036854775808 == h) = false := by simp; exact e2
    go_enter Try.func86, Try.ntmps86
    go_wp2
    exact bodyPost_ret (by rw [results_tmp2 rfl]; go_simp <;> omega) rfl ⟨rfl, (by (repeat' (first | exact Below.refl _ _ | refine Below.drew ?_ | refine Below.setCell ?_ (by first | omega | (simp <;> omega)) _ | refine Below.alloc ?_ (by first | omega | (simp <;> omega)) _)))⟩
theorem results_tc2 {fn : Func} {u p : Tmp} {ty : TypeId} (h : fn.results = #[.tmp u, .cell p ty]) (tmps : Array Value) (P : Program) (w : World) :
    (results fn tmps).run P w = ((asAddr (tmps.getD p undef)).run P w).andThen fun a w₁ => ((loadVar ty a).run P w₁).andThen fun v w₂ => .ok (.tuple #[tmps.getD u undef, v]) w₂ := by
  simp only [results, h]
  simp [Sem.run_bind, Result.andThen]
theorem results_cc {fn : Func} {p q : Tmp} {ty ty2 : TypeId} (h : fn.results = #[.cell p ty, .cell q ty2]) (tmps : Array Value) (P : Program) (w : World) :
    (results fn tmps).run P w = ((asAddr (tmps.getD p undef)).run P w).andThen fun a w₁ => ((loadVar ty a).run P w₁).andThen fun v w₂ => ((asAddr (tmps.getD q undef)).run P w₂).andThen fun a' w₃ => ((loadVar ty2 a').run P w₃).andThen fun v' w₄ => .ok (.tuple #[v, v']) w₄ := by
  simp only [results, h]
  simp [Sem.run_bind, Result.andThen]
theorem xor_max (l : Int) (l0 : 0 ≤ l) (l1 : l ≤ 18446744073709551615) : bits BinOp.xor IntKind.u64 IntKind.u64.max l = 18446744073709551615 - l := by
  obtain ⟨n, rfl⟩ := Int.eq_ofNat_of_zero_le l0
  show IntKind.u64.wrap ((BitVec.ofInt 64 IntKind.u64.max ^^^ BitVec.ofInt 64 (n : Int)).toNat : Int) = _
  have e : BitVec.ofInt 64 IntKind.u64.max = BitVec.allOnes 64 := by decide
  rw [e, BitVec.allOnes_xor, BitVec.toNat_not, ofInt_u64 n (by omega), wrapU]
  omega
/-- 2^128 less a size. -/
theorem minus_any (h l : Int) (w : World) (h0 : 0 ≤ h) (h1 : h ≤ 18446744073709551615) (l0 : 0 ≤ l) (l1 : l ≤ 18446744073709551615) :
    Calls Try.prog 97 #[.agg #[.int .u64 h, .int .u64 l]] w fun e w' => e = .returned (.agg #[.int .u64 ((340282366920938463463374607431768211456 - V h l) % 340282366920938463463374607431768211456 / 18446744073709551616), .int .u64 ((340282366920938463463374607431768211456 - V h l) % 340282366920938463463374607431768211456 % 18446744073709551616)]) ∧ Below w.heap.size w w' := by
  have x1 := xor_max l l0 l1
  have x2 := xor_max h h0 h1
  obtain ⟨HI, hH⟩ : ∃ y, (340282366920938463463374607431768211456 - V h l) % 340282366920938463463374607431768211456 / 18446744073709551616 = y := ⟨_, rfl⟩
  obtain ⟨LO, hLO⟩ : ∃ y, (340282366920938463463374607431768211456 - V h l) % 340282366920938463463374607431768211456 % 18446744073709551616 = y := ⟨_, rfl⟩
  rw [hH, hLO]
  unfold V at hH hLO
  have e1 : (18446744073709551615 - l + 1) % 18446744073709551616 = LO := by omega
  have e2 : IntKind.u64.wrap (18446744073709551615 - h + (18446744073709551615 - l + 1) / 18446744073709551616) = HI := by rw [wrapU]; omega
  have e3 : 0 ≤ 18446744073709551615 - l := by omega
  clear hH hLO
  go_enter Try.func97, Try.ntmps97
  go_wp2
  exact bodyPost_ret (v := .agg #[.int .u64 HI, .int .u64 LO]) (by rw [results_c1 rfl]; go_simp <;> omega) rfl ⟨rfl, (by (repeat' (first | exact Below.refl _ _ | refine Below.drew ?_ | refine Below.setCell ?_ (by first | omega | (simp <;> omega)) _ | refine Below.alloc ?_ (by first | omega | (simp <;> omega)) _)))⟩
def A (h l : Int) : Int := if V h l < 0 then -V h l else V h l
theorem A_bounds (h l : Int) (a : WR h l) : 0 ≤ A h l ∧ A h l ≤ 170141183460469231731687303715884105728 := by
  obtain ⟨a0, a1, a2, a3⟩ := a
  unfold A V
  split <;> omega
/-- The size, and whether it is below 0. -/
theorem of_any (h l : Int) (w : World) (a : WR h l) :
    Calls Try.prog 99 #[.agg #[.int .i64 h, .int .u64 l]] w fun e w' => e = .returned (.tuple #[.bool (decide (h < 0)), .agg #[.int .u64 (A h l / 18446744073709551616), .int .u64 (A h l % 18446744073709551616)]]) ∧ Below w.heap.size w w' := by
  obtain ⟨a0, a1, a2, a3⟩ := a
  by_cases hn : h < 0
  · rw [decide_eq_true hn]
    have hw : IntKind.u64.wrap h = h + 18446744073709551616 := by rw [wrapU]; omega
    have hA : A h l = -(h * 18446744073709551616 + l) := by unfold A V; rw [if_pos (by omega)]
    have hm := fun w => Lib.hid (minus_any (h + 18446744073709551616) l w (by omega) (by omega) a2 a3)
    have e0 : (340282366920938463463374607431768211456 - V (h + 18446744073709551616) l) % 340282366920938463463374607431768211456 = A h l := by rw [hA]; unfold V; omega
    rw [e0] at hm
    obtain ⟨HI, hH⟩ : ∃ y, A h l / 18446744073709551616 = y := ⟨_, rfl⟩
    obtain ⟨LO, hLO⟩ : ∃ y, A h l % 18446744073709551616 = y := ⟨_, rfl⟩
    rw [hH, hLO] at hm
    rw [hH, hLO]
    clear hH hLO e0 hA
    go_enter Try.func99, Try.ntmps99
    go_wp2_with (first
      | (go_at_call 97; go_loud (refine (hm _).out.mono ?_; rintro e w1 ⟨rfl, hb⟩; have HB := Lib.hid hb; have hs := hb.size; (try simp at hs); have j0 := (hb.cell (p := ⟨w.heap.size + 1, 0, none⟩) (by first | omega | (simp <;> omega))); have j1 := (hb.cell (p := ⟨w.heap.size + 1, 1, none⟩) (by first | omega | (simp <;> omega))); have g0 := (hb.frozen (p := ⟨w.heap.size + 1, 0, none⟩) (by first | omega | (simp <;> omega))); have g1 := (hb.frozen (p := ⟨w.heap.size + 1, 1, none⟩) (by first | omega | (simp <;> omega))); clear hb)))
    (try simp only [Exit.inBlock, Exit.then])
    refine bodyPost_ret (v := .tuple #[.bool true, .agg #[.int .u64 HI, .int .u64 LO]]) (by rw [results_tc2 rfl]; go_simp) rfl ⟨rfl, ?_⟩
    iterate 2 refine Below.setCell ?_ (by first | omega | (simp <;> omega)) _
    exact Below.trans (by (repeat' (first | exact Below.refl _ _ | refine Below.drew ?_ | refine Below.setCell ?_ (by first | omega | (simp <;> omega)) _ | refine Below.alloc ?_ (by first | omega | (simp <;> omega)) _))) (HB.out.mono (by first | omega | (simp <;> omega)))
  · rw [decide_eq_false hn]
    have hw : IntKind.u64.wrap h = h := by rw [wrapU]; omega
    have hA : A h l = h * 18446744073709551616 + l := by unfold A V; rw [if_neg (by omega)]
    have hH : A h l / 18446744073709551616 = h := by omega
    have hLO : A h l % 18446744073709551616 = l := by omega
    rw [hH, hLO]
    clear hH hLO hA
    go_enter Try.func99, Try.ntmps99
    go_wp2
    go_region
    go_wp2
    (try simp only [Exit.inBlock, Exit.then])
    exact bodyPost_ret (v := .tuple #[.bool false, .agg #[.int .u64 h, .int .u64 l]]) (by rw [results_tc2 rfl]; go_simp) rfl ⟨rfl, (by (repeat' (first | exact Below.refl _ _ | refine Below.drew ?_ | refine Below.setCell ?_ (by first | omega | (simp <;> omega)) _ | refine Below.alloc ?_ (by first | omega | (simp <;> omega)) _)))⟩
/-- A size with a sign, as a number. -/
theorem told_in (neg : Bool) (n : Int) (w : World) (n0 : 0 ≤ n) (hn : if neg = true then n ≤ 170141183460469231731687303715884105728 else n < 170141183460469231731687303715884105728) :
    Calls Try.prog 77 #[.bool neg, .agg #[.int .u64 (n / 18446744073709551616), .int .u64 (n % 18446744073709551616)]] w (RetWE w ((if neg = true then -n else n) / 18446744073709551616) ((if neg = true then -n else n) % 18446744073709551616) 0) := by
  have hHb : 0 ≤ n / 18446744073709551616 ∧ n / 18446744073709551616 ≤ 9223372036854775808 := by split at hn <;> omega
  have hLb : 0 ≤ n % 18446744073709551616 ∧ n % 18446744073709551616 ≤ 18446744073709551615 := by omega
  have hm := fun w => Lib.hid (minus_any (n / 18446744073709551616) (n % 18446744073709551616) w hHb.1 (by omega) hLb.1 hLb.2)
  have e0 : V (n / 18446744073709551616) (n % 18446744073709551616) = n := by unfold V; omega
  rw [e0] at hm
  cases neg with
  | false =>
    simp only [Bool.false_eq_true, if_false] at hn ⊢
    obtain ⟨HI, hH⟩ : ∃ y, n / 18446744073709551616 = y := ⟨_, rfl⟩
    obtain ⟨LO, hLO⟩ : ∃ y, n % 18446744073709551616 = y := ⟨_, rfl⟩
    rw [hH, hLO]
    have e1 : (HI / 9223372036854775808 == 1) = false := by simp; omega
    have e2 : RowKit.wrap64 HI = HI := by unfold RowKit.wrap64; omega
    have e3 : 0 ≤ HI := by omega
    have e5 : HI ≤ 9223372036854775807 := by omega
    have e4 : IntKind.i64.wrap HI = HI := by rw [IntKind.wrap_i64]; omega
    clear hH hLO hHb hLb hm e0
    go_enter Try.func77, Try.ntmps77
    go_wp2
    exact bodyPost_ret (v := .tuple #[.agg #[.int .i64 HI, .int .u64 LO], .int .i64 0]) (by rw [results_ct rfl]; go_simp) rfl ⟨rfl, (by (repeat' (first | exact Below.refl _ _ | refine Below.drew ?_ | refine Below.setCell ?_ (by first | omega | (simp <;> omega)) _ | refine Below.alloc ?_ (by first | omega | (simp <;> omega)) _)))⟩
  | true =>
    simp only [if_true] at hn ⊢
    obtain ⟨HI, hH⟩ : ∃ y, n / 18446744073709551616 = y := ⟨_, rfl⟩
    obtain ⟨LO, hLO⟩ : ∃ y, n % 18446744073709551616 = y := ⟨_, rfl⟩
    obtain ⟨HM, hHM⟩ : ∃ y, (340282366920938463463374607431768211456 - n) % 340282366920938463463374607431768211456 / 18446744073709551616 = y := ⟨_, rfl⟩
    obtain ⟨LM, hLM⟩ : ∃ y, (340282366920938463463374607431768211456 - n) % 340282366920938463463374607431768211456 % 18446744073709551616 = y := ⟨_, rfl⟩
    rw [hH, hLO, hHM, hLM] at hm
    rw [hH, hLO]
    have e6 : RowKit.wrap64 HM = -n / 18446744073709551616 := by unfold RowKit.wrap64; omega
    have e7 : LM = -n % 18446744073709551616 := by omega
    have e8 : 0 ≤ HM ∧ HM ≤ 18446744073709551615 := by omega
    obtain ⟨e8a, e8b⟩ := e8
    rw [← e7, ← e6]
    have e3 : 0 ≤ HI := by omega
    by_cases hT : n = 170141183460469231731687303715884105728
    · have e1 : (HI / 9223372036854775808 == 1) = true := by simp; omega
      have e5 : HI = 9223372036854775808 := by omega
      have e9 : LO = 0 := by omega
      clear hH hLO hHb hLb hHM hLM e0 e6 e7
      subst e5; subst e9
      go_enter Try.func77, Try.ntmps77
      go_wp2_with (first
        | (go_at_call 97; go_loud (refine (hm _).out.mono ?_; rintro e w1 ⟨rfl, hb⟩; have HB := Lib.hid hb; have hs := hb.size; (try simp at hs); have j00 := (hb.cell (p := ⟨w.heap.size, 0, none⟩) (by first | omega | (simp <;> omega))); have g00 := (hb.frozen (p := ⟨w.heap.size, 0, none⟩) (by first | omega | (simp <;> omega))); have j01 := (hb.cell (p := ⟨w.heap.size, 1, none⟩) (by first | omega | (simp <;> omega))); have g01 := (hb.frozen (p := ⟨w.heap.size, 1, none⟩) (by first | omega | (simp <;> omega))); have j10 := (hb.cell (p := ⟨w.heap.size + 1, 0, none⟩) (by first | omega | (simp <;> omega))); have g10 := (hb.frozen (p := ⟨w.heap.size + 1, 0, none⟩) (by first | omega | (simp <;> omega))); have j11 := (hb.cell (p := ⟨w.heap.size + 1, 1, none⟩) (by first | omega | (simp <;> omega))); have g11 := (hb.frozen (p := ⟨w.heap.size + 1, 1, none⟩) (by first | omega | (simp <;> omega))); clear hb)))
      refine bodyPost_ret (v := .tuple #[.agg #[.int .i64 (RowKit.wrap64 HM), .int .u64 LM], .int .i64 0]) (by rw [results_ct rfl]; go_simp) rfl ⟨rfl, ?_⟩
      iterate 4 refine Below.setCell ?_ (by first | omega | (simp <;> omega)) _
      exact Below.trans (by (repeat' (first | exact Below.refl _ _ | refine Below.drew ?_ | refine Below.setCell ?_ (by first | omega | (simp <;> omega)) _ | refine Below.alloc ?_ (by first | omega | (simp <;> omega)) _))) (HB.out.mono (by first | omega | (simp <;> omega)))
    · have e1 : (HI / 9223372036854775808 == 1) = false := by simp; omega
      clear hH hLO hHb hLb hHM hLM e0 e6 e7
      go_enter Try.func77, Try.ntmps77
      go_wp2_with (first
        | (go_at_call 97; go_loud (refine (hm _).out.mono ?_; rintro e w1 ⟨rfl, hb⟩; have HB := Lib.hid hb; have hs := hb.size; (try simp at hs); have j00 := (hb.cell (p := ⟨w.heap.size, 0, none⟩) (by first | omega | (simp <;> omega))); have g00 := (hb.frozen (p := ⟨w.heap.size, 0, none⟩) (by first | omega | (simp <;> omega))); have j01 := (hb.cell (p := ⟨w.heap.size, 1, none⟩) (by first | omega | (simp <;> omega))); have g01 := (hb.frozen (p := ⟨w.heap.size, 1, none⟩) (by first | omega | (simp <;> omega))); have j10 := (hb.cell (p := ⟨w.heap.size + 1, 0, none⟩) (by first | omega | (simp <;> omega))); have g10 := (hb.frozen (p := ⟨w.heap.size + 1, 0, none⟩) (by first | omega | (simp <;> omega))); have j11 := (hb.cell (p := ⟨w.heap.size + 1, 1, none⟩) (by first | omega | (simp <;> omega))); have g11 := (hb.frozen (p := ⟨w.heap.size + 1, 1, none⟩) (by first | omega | (simp <;> omega))); clear hb)))
      refine bodyPost_ret (v := .tuple #[.agg #[.int .i64 (RowKit.wrap64 HM), .int .u64 LM], .int .i64 0]) (by rw [results_ct rfl]; go_simp) rfl ⟨rfl, ?_⟩
      iterate 4 refine Below.setCell ?_ (by first | omega | (simp <;> omega)) _
      exact Below.trans (by (repeat' (first | exact Below.refl _ _ | refine Below.drew ?_ | refine Below.setCell ?_ (by first | omega | (simp <;> omega)) _ | refine Below.alloc ?_ (by first | omega | (simp <;> omega)) _))) (HB.out.mono (by first | omega | (simp <;> omega)))
theorem told_out (neg : Bool) (n : Int) (w : World) (n0 : 0 ≤ n) (n1 : n < 340282366920938463463374607431768211456) (hn : if neg = true then 170141183460469231731687303715884105728 < n else 170141183460469231731687303715884105728 ≤ n) :
    Calls Try.prog 77 #[.bool neg, .agg #[.int .u64 (n / 18446744073709551616), .int .u64 (n % 18446744073709551616)]] w (RetWE w 0 0 3) := by
  obtain ⟨HI, hH⟩ : ∃ y, n / 18446744073709551616 = y := ⟨_, rfl⟩
  obtain ⟨LO, hLO⟩ : ∃ y, n % 18446744073709551616 = y := ⟨_, rfl⟩
  rw [hH, hLO]
  have e1 : (HI / 9223372036854775808 == 1) = true := by simp; split at hn <;> omega
  have e3 : 0 ≤ HI := by omega
  cases neg with
  | false =>
    clear hH hLO
    go_enter Try.func77, Try.ntmps77
    go_wp2
    exact bodyPost_ret (v := .tuple #[.agg #[.int .i64 0, .int .u64 0], .int .i64 3]) (by rw [results_ct rfl]; go_simp) rfl ⟨rfl, (by (repeat' (first | exact Below.refl _ _ | refine Below.drew ?_ | refine Below.setCell ?_ (by first | omega | (simp <;> omega)) _ | refine Below.alloc ?_ (by first | omega | (simp <;> omega)) _)))⟩
  | true =>
    simp only [if_true] at hn
    by_cases h1 : HI = 9223372036854775808
    · have h2 : ¬ LO = 0 := by omega
      have h3 : (LO == 0) = false := by simp; exact h2
      clear hH hLO
      subst h1
      go_enter Try.func77, Try.ntmps77
      go_wp2
      exact bodyPost_ret (v := .tuple #[.agg #[.int .i64 0, .int .u64 0], .int .i64 3]) (by rw [results_ct rfl]; go_simp) rfl ⟨rfl, (by (repeat' (first | exact Below.refl _ _ | refine Below.drew ?_ | refine Below.setCell ?_ (by first | omega | (simp <;> omega)) _ | refine Below.alloc ?_ (by first | omega | (simp <;> omega)) _)))⟩
    · have h3 : (HI == 9223372036854775808) = false := by simp; exact h1
      clear hH hLO
      go_enter Try.func77, Try.ntmps77
      go_wp2
      exact bodyPost_ret (v := .tuple #[.agg #[.int .i64 0, .int .u64 0], .int .i64 3]) (by rw [results_ct rfl]; go_simp) rfl ⟨rfl, (by (repeat' (first | exact Below.refl _ _ | refine Below.drew ?_ | refine Below.setCell ?_ (by first | omega | (simp <;> omega)) _ | refine Below.alloc ?_ (by first | omega | (simp <;> omega)) _)))⟩
theorem less_any (h l h' l' : Int) (w : World) (l0 : 0 ≤ l) (l1 : l ≤ 18446744073709551615) (l0' : 0 ≤ l') (l1' : l' ≤ 18446744073709551615) :
    Calls Try.prog 101 #[.agg #[.int .u64 h, .int .u64 l], .agg #[.int .u64 h', .int .u64 l']] w fun e w' => e = .returned (.bool (decide (V h l < V h' l'))) ∧ Below w.heap.size w w' := by
  have e1 : V h l = h * 18446744073709551616 + l := rfl
  have e2 : V h' l' = h' * 18446744073709551616 + l' := rfl
  rcases Int.lt_trichotomy h h' with h1 | h1 | h1
  · have e : decide (V h l < V h' l') = true := decide_eq_true (by omega)
    rw [e]
    clear e e1 e2
    go_enter Try.func101, Try.ntmps101
    go_wp2
    go_ret
    exact ⟨rfl, (by (repeat' (first | exact Below.refl _ _ | refine Below.drew ?_ | refine Below.setCell ?_ (by first | omega | (simp <;> omega)) _ | refine Below.alloc ?_ (by first | omega | (simp <;> omega)) _)))⟩
  · subst h1
    have e : decide (V h l < V h l') = decide (l < l') := by rw [decide_eq_decide]; omega
    rw [e]
    clear e e1 e2
    go_enter Try.func101, Try.ntmps101
    go_wp2
    go_ret
    exact ⟨rfl, (by (repeat' (first | exact Below.refl _ _ | refine Below.drew ?_ | refine Below.setCell ?_ (by first | omega | (simp <;> omega)) _ | refine Below.alloc ?_ (by first | omega | (simp <;> omega)) _)))⟩
  · have e : decide (V h l < V h' l') = false := decide_eq_false (by omega)
    have h2 : ¬ h < h' := by omega
    have h3 : ¬ h = h' := by omega
    have h4 : (h == h') = false := by simp; exact h3
    rw [e]
    clear e e1 e2
    go_enter Try.func101, Try.ntmps101
    go_wp2
    go_ret
    exact ⟨rfl, (by (repeat' (first | exact Below.refl _ _ | refine Below.drew ?_ | refine Below.setCell ?_ (by first | omega | (simp <;> omega)) _ | refine Below.alloc ?_ (by first | omega | (simp <;> omega)) _)))⟩
theorem szsub_any (h l h' l' : Int) (w : World) (h0 : 0 ≤ h) (h1 : h ≤ 18446744073709551615) (l0 : 0 ≤ l) (l1 : l ≤ 18446744073709551615) (h0' : 0 ≤ h') (h1' : h' ≤ 18446744073709551615) (l0' : 0 ≤ l') (l1' : l' ≤ 18446744073709551615) :
    Calls Try.prog 100 #[.agg #[.int .u64 h, .int .u64 l], .agg #[.int .u64 h', .int .u64 l']] w fun e w' => e = .returned (.agg #[.int .u64 ((V h l - V h' l') % 340282366920938463463374607431768211456 / 18446744073709551616), .int .u64 ((V h l - V h' l') % 340282366920938463463374607431768211456 % 18446744073709551616)]) ∧ Below w.heap.size w w' := by
  obtain ⟨HI, hH⟩ : ∃ y, (V h l - V h' l') % 340282366920938463463374607431768211456 / 18446744073709551616 = y := ⟨_, rfl⟩
  obtain ⟨LO, hLO⟩ : ∃ y, (V h l - V h' l') % 340282366920938463463374607431768211456 % 18446744073709551616 = y := ⟨_, rfl⟩
  rw [hH, hLO]
  unfold V at hH hLO
  have e1 : (l - l') % 18446744073709551616 = LO := by omega
  obtain ⟨B, hB⟩ : ∃ y, -((l - l') / 18446744073709551616) = y := ⟨_, rfl⟩
  have e2 : (h - h' - B) % 18446744073709551616 = HI := by omega
  have e3 : 0 ≤ B := by omega
  have e4 : B ≤ 1 := by omega
  clear hH hLO
  go_enter Try.func100, Try.ntmps100
  go_wp2
  exact bodyPost_ret (v := .agg #[.int .u64 HI, .int .u64 LO]) (by rw [results_c1 rfl]; go_simp <;> omega) rfl ⟨rfl, (by (repeat' (first | exact Below.refl _ _ | refine Below.drew ?_ | refine Below.setCell ?_ (by first | omega | (simp <;> omega)) _ | refine Below.alloc ?_ (by first | omega | (simp <;> omega)) _)))⟩
theorem next_any (h l : Int) (w : World) (h0 : 0 ≤ h) (h1 : h ≤ 18446744073709551615) (l0 : 0 ≤ l) (l1 : l ≤ 18446744073709551615) :
    Calls Try.prog 102 #[.agg #[.int .u64 h, .int .u64 l]] w fun e w' => e = .returned (.agg #[.int .u64 ((V h l + 1) % 340282366920938463463374607431768211456 / 18446744073709551616), .int .u64 ((V h l + 1) % 340282366920938463463374607431768211456 % 18446744073709551616)]) ∧ Below w.heap.size w w' := by
  obtain ⟨HI, hH⟩ : ∃ y, (V h l + 1) % 340282366920938463463374607431768211456 / 18446744073709551616 = y := ⟨_, rfl⟩
  obtain ⟨LO, hLO⟩ : ∃ y, (V h l + 1) % 340282366920938463463374607431768211456 % 18446744073709551616 = y := ⟨_, rfl⟩
  rw [hH, hLO]
  unfold V at hH hLO
  have e1 : (l + 1) % 18446744073709551616 = LO := by omega
  have e2 : IntKind.u64.wrap (h + (l + 1) / 18446744073709551616) = HI := by rw [wrapU]; omega
  clear hH hLO
  go_enter Try.func102, Try.ntmps102
  go_wp2
  exact bodyPost_ret (v := .agg #[.int .u64 HI, .int .u64 LO]) (by rw [results_c1 rfl]; go_simp <;> omega) rfl ⟨rfl, (by (repeat' (first | exact Below.refl _ _ | refine Below.drew ?_ | refine Below.setCell ?_ (by first | omega | (simp <;> omega)) _ | refine Below.alloc ?_ (by first | omega | (simp <;> omega)) _)))⟩
/-- A variable of two cells. -/
structure Box2 (w : World) (b : Nat) (v0 v1 : Value) : Prop where
  c0 : w.cell? ⟨b, 0, none⟩ = some v0
  c1 : w.cell? ⟨b, 1, none⟩ = some v1
  f0 : w.frozen? ⟨b, 0, none⟩ = false
  f1 : w.frozen? ⟨b, 1, none⟩ = false
theorem Box2.below {w w' : World} {b n : Nat} {v0 v1 : Value} (h : Box2 w b v0 v1) (hb : Below n w w') (hn : b < n) : Box2 w' b v0 v1 :=
  ⟨(hb.cell (p := ⟨b, 0, none⟩) hn).trans h.c0, (hb.cell (p := ⟨b, 1, none⟩) hn).trans h.c1, (hb.frozen (p := ⟨b, 0, none⟩) hn).trans h.f0, (hb.frozen (p := ⟨b, 1, none⟩) hn).trans h.f1⟩
def upR (q r d : Int) : Bool := decide (d - r < r) || (decide (d - r = r) && decide (q % 2 = 1))
def absI (x : Int) : Int := if x < 0 then -x else x
theorem bitLenAux_bounds : ∀ (f x : Nat), x < 2 ^ f → x < 2 ^ Lib.bitLenAux f x ∧ (x ≠ 0 → 1 ≤ Lib.bitLenAux f x ∧ 2 ^ (Lib.bitLenAux f x - 1) ≤ x)
  | 0, x, h => by
    have : x = 0 := by simpa using h
    subst this
    exact ⟨by simp [Lib.bitLenAux], fun h => absurd rfl h⟩
  | f + 1, x, h => by
    simp only [Lib.bitLenAux]
    split
    · rename_i h0
      subst h0
      exact ⟨by simp, fun h => absurd rfl h⟩
    · rename_i h0
      obtain ⟨i1, i2⟩ := bitLenAux_bounds f (x / 2) (by rw [Nat.pow_succ] at h; omega)
      refine ⟨by rw [Nat.add_comm, Nat.pow_succ]; omega, fun _ => ⟨by omega, ?_⟩⟩
      by_cases h1 : x / 2 = 0
      · have : x = 1 := by omega
        subst this
        have : Lib.bitLenAux f (1 / 2) = 0 := by cases f <;> simp [Lib.bitLenAux]
        rw [this]
        decide
      · obtain ⟨j1, j2⟩ := i2 h1
        have e : 1 + Lib.bitLenAux f (x / 2) - 1 = (Lib.bitLenAux f (x / 2) - 1) + 1 := by omega
        rw [e, Nat.pow_succ]
        omega
theorem bitLen_bounds (x : Nat) (h : x < 18446744073709551616) : x < 2 ^ Lib.bitLen x ∧ (x ≠ 0 → 1 ≤ Lib.bitLen x ∧ 2 ^ (Lib.bitLen x - 1) ≤ x) := bitLenAux_bounds 64 x h
theorem bitLen_64 (x : Int) (h0 : 0 ≤ x) (h1 : x ≤ 18446744073709551615) : Lib.bitLen x.toNat ≤ 64 := Lib.bitLen_le x.toNat 64 (by omega) (by omega)
theorem tab_at (i : Int) (h0 : 0 ≤ i) (h1 : i ≤ 255) (h : i.toNat < Lib.len8tab.size) : ((Lib.len8tab[i.toNat]'h).toNat : Int) = (Lib.bitLen i.toNat : Int) := by
  rw [← Lib.len8_of i h0 h1]
  simp only [Lib.len8, ByteArray.getElem?_lt' _ _ h, Option.getD_some]
set_option maxHeartbeats 4000000 in
set_option maxRecDepth 100000 in
theorem len64_any (x : Int) (w : World) (h0 : 0 ≤ x) (h1 : x ≤ 18446744073709551615) :
    Calls Try.prog 106 #[.int .u64 x] w fun e w' => e = .returned (.int .i64 (Lib.bitLen x.toNat)) ∧ w' = w := by
  go_enter Try.func106, Try.ntmps106
  go_wp2
  all_goals first
    | (exfalso; rename_i hbad; rw [Lib.len8tab_size] at hbad; omega)
    | (go_ret; refine ⟨congrArg Ending.returned (congrArg (Value.int IntKind.i64) ?_), rfl⟩)
  · rw [tab_at (x / 4294967296 / 65536 / 256) (by omega) (by omega)]
    have e : (x / 4294967296 / 65536 / 256).toNat = x.toNat / 72057594037927936 := by omega
    have l := Lib.bitLen_le8' (x / 4294967296 / 65536 / 256) (by omega) (by omega)
    have s := Lib.bitLen_shift56 x.toNat (by omega) (by omega)
    rw [e] at l ⊢
    rw [s]
    generalize Lib.bitLen (x.toNat / 72057594037927936) = B at l ⊢
    clear e s
    unfold RowKit.wrap64
    omega
  · rw [tab_at (x / 4294967296 / 65536) (by omega) (by omega)]
    have e : (x / 4294967296 / 65536).toNat = x.toNat / 281474976710656 := by omega
    have l := Lib.bitLen_le8' (x / 4294967296 / 65536) (by omega) (by omega)
    have s := Lib.bitLen_shift48 x.toNat (by omega) (by omega)
    rw [e] at l ⊢
    rw [s]
    generalize Lib.bitLen (x.toNat / 281474976710656) = B at l ⊢
    clear e s
    unfold RowKit.wrap64
    omega
  · rw [tab_at (x / 4294967296 / 256) (by omega) (by omega)]
    have e : (x / 4294967296 / 256).toNat = x.toNat / 1099511627776 := by omega
    have l := Lib.bitLen_le8' (x / 4294967296 / 256) (by omega) (by omega)
    have s := Lib.bitLen_shift40 x.toNat (by omega) (by omega)
    rw [e] at l ⊢
    rw [s]
    generalize Lib.bitLen (x.toNat / 1099511627776) = B at l ⊢
    clear e s
    unfold RowKit.wrap64
    omega
  · rw [tab_at (x / 4294967296) (by omega) (by omega)]
    have e : (x / 4294967296).toNat = x.toNat / 4294967296 := by omega
    have l := Lib.bitLen_le8' (x / 4294967296) (by omega) (by omega)
    have s := Lib.bitLen_shift32 x.toNat (by omega) (by omega)
    rw [e] at l ⊢
    rw [s]
    generalize Lib.bitLen (x.toNat / 4294967296) = B at l ⊢
    clear e s
    unfold RowKit.wrap64
    omega
  · rw [tab_at (x / 65536 / 256) (by omega) (by omega)]
    have e : (x / 65536 / 256).toNat = x.toNat / 16777216 := by omega
    have l := Lib.bitLen_le8' (x / 65536 / 256) (by omega) (by omega)
    have s := Lib.bitLen_shift24 x.toNat (by omega) (by omega)
    rw [e] at l ⊢
    rw [s]
    generalize Lib.bitLen (x.toNat / 16777216) = B at l ⊢
    clear e s
    unfold RowKit.wrap64
    omega
  · rw [tab_at (x / 65536) (by omega) (by omega)]
    have e : (x / 65536).toNat = x.toNat / 65536 := by omega
    have l := Lib.bitLen_le8' (x / 65536) (by omega) (by omega)
    have s := Lib.bitLen_shift16 x.toNat (by omega) (by omega)
    rw [e] at l ⊢
    rw [s]
    generalize Lib.bitLen (x.toNat / 65536) = B at l ⊢
    clear e s
    unfold RowKit.wrap64
    omega
  · rw [tab_at (x / 256) (by omega) (by omega)]
    have e : (x / 256).toNat = x.toNat / 256 := by omega
    have l := Lib.bitLen_le8' (x / 256) (by omega) (by omega)
    have s := Lib.bitLen_shift8 x.toNat (by omega) (by omega)
    rw [e] at l ⊢
    rw [s]
    generalize Lib.bitLen (x.toNat / 256) = B at l ⊢
    clear e s
    unfold RowKit.wrap64
    omega
  · rw [tab_at (x) (by omega) (by omega)]
    have e : (x).toNat = x.toNat := by omega
    have l := Lib.bitLen_le8' (x) (by omega) (by omega)
    rw [e] at l ⊢
    generalize Lib.bitLen x.toNat = B at l ⊢
    clear e
    unfold RowKit.wrap64
    omega
theorem castPow (k : Nat) : ((2 ^ k : Nat) : Int) = (2 : Int) ^ k := by simp
theorem V_neg (h l : Int) (a : WR h l) : decide (V h l < 0) = decide (h < 0) := by
  obtain ⟨_, _, _, _⟩ := a
  by_cases hn : h < 0
  · rw [decide_eq_true hn]; exact decide_eq_true (by unfold V; omega)
  · rw [decide_eq_false hn]; exact decide_eq_false (by unfold V; omega)
end Go.Proofs.Ytadlnmckcnfacaa
namespace Go.Proofs.Ytadlnmckcnfacaa
open Go.RowKit Go.Rt
/-- The quotient, to the nearest, of two to the even one. -/
def roundI (n d : Int) : Int :=
  if (decide (n < 0) != decide (d < 0)) = true then -(if upR (absI n / absI d) (absI n % absI d) (absI d) = true then absI n / absI d + 1 else absI n / absI d)
  else (if upR (absI n / absI d) (absI n % absI d) (absI d) = true then absI n / absI d + 1 else absI n / absI d)
/-- Is it a word? -/
def isW (v : Int) : Bool := decide (-140737488355328 < v) && decide (v < 140737488355328)
theorem isW_iff {v : Int} : isW v = true ↔ -140737488355328 < v ∧ v < 140737488355328 := by simp [isW]
theorem fxGood_any (v : Int) (w : World) : Calls Try.prog 81 #[.int .i64 v] w fun e w' => e = .returned (.bool (isW v)) ∧ w = w' := by
  by_cases h1 : -140737488355328 < v
  · by_cases h2 : v < 140737488355328
    · have e1 : isW v = true := by unfold isW; rw [decide_eq_true h1, decide_eq_true h2]; rfl
      rw [e1]
      go_enter Try.func81, Try.ntmps81
      go_wp2
      go_ret
      exact ⟨rfl, rfl⟩
    · have e1 : isW v = false := by unfold isW; rw [decide_eq_true h1, decide_eq_false h2]; rfl
      rw [e1]
      go_enter Try.func81, Try.ntmps81
      go_wp2
      go_ret
      exact ⟨rfl, rfl⟩
  · have e1 : isW v = false := by unfold isW; rw [decide_eq_false h1]; rfl
    rw [e1]
    go_enter Try.func81, Try.ntmps81
    go_wp2
    go_ret
    exact ⟨rfl, rfl⟩
/-- What a number is as a word: the word, the error. -/
def wordV (x : Int) : Int := if isW x = true then x else 0
def wordE (x : Int) : Int := if isW x = true then 0 else 3
def RetV (v z : Int) (e : Ending) : Prop := e = .returned (.tuple #[.int .i64 v, .int .i64 z])
theorem word_any (v : Int) (w : World) : Calls Try.prog 87 #[.int .i64 v] w fun e w' => RetV (wordV v) (wordE v) e ∧ w = w' := by
  have hg := fun w => Lib.hid (fxGood_any v w)
  unfold wordV wordE
  cases h : isW v
  all_goals
    rw [h] at hg
    simp only [if_true, Bool.false_eq_true, if_false]
    go_enter Try.func87, Try.ntmps87
    go_wp2_with (first | (go_at_call 81; refine (hg _).out.mono ?_; rintro e w' ⟨rfl, rfl⟩))
    exact bodyPost_ret (by rw [results_tmp2 rfl]; go_simp) rfl ⟨rfl, rfl⟩
theorem narrow_any (h l : Int) (w : World) (a : WR h l) : Calls Try.prog 50 #[.agg #[.int .i64 h, .int .u64 l]] w fun e w' => RetV (wordV (V h l)) (wordE (V h l)) e ∧ Below w.heap.size w w' := by
  have hs := fun w => Lib.hid (small_any h l w a)
  by_cases hr : -9223372036854775808 ≤ V h l ∧ V h l ≤ 9223372036854775807
  · rw [if_pos hr, decide_eq_true hr] at hs
    have hw := fun w => Lib.hid (word_any (V h l) w)
    generalize V h l = X at hs hw ⊢
    generalize wordV X = XV at hw ⊢
    generalize wordE X = XE at hw ⊢
    clear hr
    go_enter Try.func50, Try.ntmps50
    go_wp2_with (first | (go_at_call 86; refine (hs _).out.mono ?_; rintro e w1 ⟨rfl, hb⟩; have HB1 := Lib.hid hb; clear hb) | (go_at_call 87; refine (hw _).out.mono ?_; rintro e w' ⟨he, rfl⟩; unfold RetV at he; subst he))
    exact bodyPost_ret (by rw [results_tmp2 rfl]; go_simp) rfl ⟨rfl, Below.trans (by (repeat' (first | exact Below.refl _ _ | refine Below.drew ?_ | refine Below.setCell ?_ (by first | omega | (simp <;> omega)) _ | refine Below.alloc ?_ (by first | omega | (simp <;> omega)) _))) (HB1.out.mono (by first | omega | (simp <;> omega)))⟩
  · rw [if_neg hr, decide_eq_false hr] at hs
    have e1 : isW (V h l) = false := by
      cases hb : isW (V h l) with
      | false => rfl
      | true => have := isW_iff.1 hb; omega
    have e2 : wordV (V h l) = 0 := by unfold wordV; rw [e1]; rfl
    have e3 : wordE (V h l) = 3 := by unfold wordE; rw [e1]; rfl
    rw [e2, e3]
    clear e1 e2 e3 hr
    go_enter Try.func50, Try.ntmps50
    go_wp2_with (first | (go_at_call 86; refine (hs _).out.mono ?_; rintro e w1 ⟨rfl, hb⟩; have HB1 := Lib.hid hb; clear hb))
    exact bodyPost_ret (by rw [results_tmp2 rfl]; go_simp) rfl ⟨rfl, Below.trans (by (repeat' (first | exact Below.refl _ _ | refine Below.drew ?_ | refine Below.setCell ?_ (by first | omega | (simp <;> omega)) _ | refine Below.alloc ?_ (by first | omega | (simp <;> omega)) _))) (HB1.out.mono (by first | omega | (simp <;> omega)))⟩
end Go.Proofs.Ytadlnmckcnfacaa
namespace Go.Proofs.Ytadlnmckcnfacaa
open Go.RowKit Go.Rt
attribute [local go_sem] run_add run_subI
end Go.Proofs.Ytadlnmckcnfacaa
namespace Go.Proofs.Ytadlnmckcnfacaa
open Go.RowKit Go.Rt
end Go.Proofs.Ytadlnmckcnfacaa
namespace Go.Proofs.Ytadlnmckcnfacaa
open Go.ChangeShapes Go.WideShapes Go.RowKit Go.Rt
/-- An element of layer 1's statements: two wide numbers, two words, a count. -/
structure PairAt (w : World) (hi b o : Nat) (ah al bh bl x y n : Int) : Prop where
  lt : b < hi
  c0 : w.cell? ⟨b, o, none⟩ = some (.int .i64 ah)
  c1 : w.cell? ⟨b, o + 1, none⟩ = some (.int .u64 al)
  c2 : w.cell? ⟨b, o + 2, none⟩ = some (.int .i64 bh)
  c3 : w.cell? ⟨b, o + 3, none⟩ = some (.int .u64 bl)
  c4 : w.cell? ⟨b, o + 4, none⟩ = some (.int .i64 x)
  c5 : w.cell? ⟨b, o + 5, none⟩ = some (.int .i64 y)
  c6 : w.cell? ⟨b, o + 6, none⟩ = some (.int .i64 n)
  a : WR ah al
  b' : WR bh bl
  x0 : -9223372036854775808 ≤ x
  x1 : x ≤ 9223372036854775807
  y0 : -9223372036854775808 ≤ y
  y1 : y ≤ 9223372036854775807
  n0 : -9223372036854775808 ≤ n
  n1 : n ≤ 9223372036854775807
theorem PairAt.below {w w' : World} {hi b o : Nat} {ah al bh bl x y n : Int} (h : PairAt w hi b o ah al bh bl x y n) (hb : Below hi w w') : PairAt w' hi b o ah al bh bl x y n :=
  ⟨h.lt, (hb.cell (p := ⟨b, o, none⟩) h.lt).trans h.c0, (hb.cell (p := ⟨b, o + 1, none⟩) h.lt).trans h.c1, (hb.cell (p := ⟨b, o + 2, none⟩) h.lt).trans h.c2, (hb.cell (p := ⟨b, o + 3, none⟩) h.lt).trans h.c3,
   (hb.cell (p := ⟨b, o + 4, none⟩) h.lt).trans h.c4, (hb.cell (p := ⟨b, o + 5, none⟩) h.lt).trans h.c5, (hb.cell (p := ⟨b, o + 6, none⟩) h.lt).trans h.c6, h.a, h.b', h.x0, h.x1, h.y0, h.y1, h.n0, h.n1⟩
end Go.Proofs.Ytadlnmckcnfacaa
namespace Go.Proofs.Ytadlnmckcnfacaa
open Go.RowKit Go.Rt
/-- The divisor, shifted till its highest bit is set. -/
theorem norm_facts (y : Int) (S : Nat) (y0 : 1 ≤ y) (y1 : y ≤ 18446744073709551615) (hS : 64 - (Lib.bitLen y.toNat : Int) = S) :
    S ≤ 63 ∧ (2 : Int) ^ S * (2 : Int) ^ (64 - S) = 18446744073709551616 ∧ 1 ≤ (2 : Int) ^ S ∧ 1 ≤ (2 : Int) ^ (64 - S) ∧ 9223372036854775808 ≤ y * (2 : Int) ^ S ∧ y * (2 : Int) ^ S < 18446744073709551616 := by
  obtain ⟨h1, h2⟩ := bitLen_bounds y.toNat (by omega)
  obtain ⟨h3, h4⟩ := h2 (by omega)
  have h64 := bitLen_64 y (by omega) y1
  generalize Lib.bitLen y.toNat = B at *
  have e : B = 64 - S := by omega
  have hS63 : S ≤ 63 := by omega
  have p1 : 2 ^ S * 2 ^ (64 - S) = 18446744073709551616 := by rw [← Nat.pow_add, Nat.add_sub_cancel' (by omega)]
  have p2 : 2 ^ S * 2 ^ (64 - S - 1) = 9223372036854775808 := by
    have : S + (64 - S - 1) = 63 := by omega
    rw [← Nat.pow_add, this]
  subst e
  have a1 : y.toNat * 2 ^ S < 18446744073709551616 := by rw [← p1, Nat.mul_comm (2 ^ S)]; exact Nat.mul_lt_mul_of_pos_right h1 (Nat.two_pow_pos S)
  have a2 : 9223372036854775808 ≤ y.toNat * 2 ^ S := by rw [← p2, Nat.mul_comm (2 ^ S)]; exact Nat.mul_le_mul_right _ h4
  have c1 := castPow S
  have c2 := castPow (64 - S)
  have ey : y = (y.toNat : Int) := by omega
  refine ⟨hS63, ?_, ?_, ?_, ?_, ?_⟩
  · rw [← c1, ← c2, ← Int.natCast_mul, p1]; rfl
  · rw [← c1]; have := Nat.two_pow_pos S; omega
  · rw [← c2]; have := Nat.two_pow_pos (64 - S); omega
  · rw [ey, ← c1, ← Int.natCast_mul]; exact Int.ofNat_le.mpr a2
  · rw [ey, ← c1, ← Int.natCast_mul]; exact Int.ofNat_lt.mpr a1
/-- The number, shifted as the divisor. -/
theorem norm_num (hi lo y p p' : Int) (k0 : 0 ≤ hi) (k1 : hi < y) (l0 : 0 ≤ lo) (l1 : lo ≤ 18446744073709551615) (pp : p * p' = 18446744073709551616) (hp : 1 ≤ p) (hp' : 1 ≤ p') (hy : y * p < 18446744073709551616) :
    0 ≤ hi * p ∧ hi * p < 18446744073709551616 ∧ 0 ≤ lo / p' ∧ lo / p' < p ∧ hi * p + lo / p' < y * p ∧ (hi * 18446744073709551616 + lo) * p = (hi * p + lo / p') * 18446744073709551616 + lo * p % 18446744073709551616 := by
  have h1 : 0 ≤ hi * p := Int.mul_nonneg k0 (by omega)
  have h2 : hi * p + p ≤ y * p := by
    have := Int.mul_le_mul_of_nonneg_right (show hi + 1 ≤ y by omega) (show 0 ≤ p by omega)
    rw [Int.add_mul, Int.one_mul] at this
    exact this
  have h3 : 0 ≤ lo / p' := Int.ediv_nonneg l0 (by omega)
  have h4 : lo / p' < p := Int.ediv_lt_of_lt_mul (by omega) (by rw [pp]; omega)
  refine ⟨h1, by omega, h3, h4, by omega, ?_⟩
  have h5 := Int.mul_ediv_add_emod lo p'
  have h6 : 0 ≤ lo % p' := Int.emod_nonneg _ (by omega)
  have h7 : lo % p' < p' := Int.emod_lt_of_pos _ (by omega)
  have h8 : lo * p = lo / p' * 18446744073709551616 + lo % p' * p := by
    rw [← pp]
    conv => lhs; rw [← h5]
    rw [Int.add_mul, Int.mul_comm p' (lo / p'), Int.mul_assoc (lo / p') p' p, Int.mul_comm p' p]
  have h9 : 0 ≤ lo % p' * p := Int.mul_nonneg h6 (by omega)
  have ha : lo % p' * p < 18446744073709551616 := by
    rw [← pp, Int.mul_comm p p']
    exact Int.mul_lt_mul_of_pos_right h7 (by omega)
  have hb : lo * p % 18446744073709551616 = lo % p' * p := by rw [h8]; omega
  rw [hb, Int.add_mul, Int.add_mul, h8, Int.mul_assoc hi, Int.mul_assoc hi, Int.mul_comm 18446744073709551616 p]
  omega
/-- What the two steps tell, put together. -/
theorem norm_told (N y p Q r : Int) (hp : 1 ≤ p) (h : N * p = Q * (y * p) + r) (r0 : 0 ≤ r) (r1 : r < y * p) : Q = N / y ∧ r / p = N % y := by
  have e : r = (N - Q * y) * p := by rw [Int.sub_mul, Int.mul_assoc Q]; omega
  have t0 : 0 ≤ N - Q * y := by
    rcases Int.lt_or_le (N - Q * y) 0 with h0 | h0
    · have := Int.mul_le_mul_of_nonneg_right (show N - Q * y ≤ -1 by omega) (show 0 ≤ p by omega)
      omega
    · exact h0
  have t1 : N - Q * y < y := by
    rcases Int.lt_or_le (N - Q * y) y with h0 | h0
    · exact h0
    · have := Int.mul_le_mul_of_nonneg_right h0 (show 0 ≤ p by omega)
      omega
  have eq : N / y = Q := by
    have : N = (N - Q * y) + Q * y := by omega
    rw [this, Int.add_mul_ediv_right _ _ (by omega), Int.ediv_eq_zero_of_lt t0 t1]
    omega
  refine ⟨eq.symm, ?_⟩
  rw [e, Int.mul_ediv_cancel _ (by omega)]
  have := Int.mul_ediv_add_emod N y
  rw [eq, Int.mul_comm y Q] at this
  omega
end Go.Proofs.Ytadlnmckcnfacaa
namespace Go.Proofs.Ytadlnmckcnfacaa
open Go.RowKit Go.Rt
variable (a b u d Y q r : Int)
/-- A digit's bounds. -/
theorem digit_lt (hY : 0 < Y) (u1 : u < Y) (d1 : d < 4294967296) : (u * 4294967296 + d) / Y < 4294967296 :=
  Int.ediv_lt_of_lt_mul hY (by omega)
theorem digit_first (hY : Y = a * 4294967296 + b) (a0 : 1 ≤ a) (b0 : 0 ≤ b) (u0 : 0 ≤ u) (d0 : 0 ≤ d) (d1 : d < 4294967296) : (u * 4294967296 + d) / Y ≤ u / a := by
  have hYp : 0 < Y := by omega
  have hQ0 : 0 ≤ (u * 4294967296 + d) / Y := Int.ediv_nonneg (by omega) (by omega)
  have h := Int.ediv_mul_le (u * 4294967296 + d) (show Y ≠ 0 by omega)
  generalize (u * 4294967296 + d) / Y = Q at *
  rw [hY, Int.mul_add, ← Int.mul_assoc] at h
  have hb := Int.mul_nonneg hQ0 b0
  exact Int.le_ediv_of_mul_le (by omega) (by omega)
theorem digit_done (hY : Y = a * 4294967296 + b) (hYp : 0 < Y) (hu : q * a + r = u) (hQ : (u * 4294967296 + d) / Y ≤ q) (h : q * b ≤ 4294967296 * r + d) : (u * 4294967296 + d) / Y = q := by
  have : q ≤ (u * 4294967296 + d) / Y := by
    refine Int.le_ediv_of_mul_le hYp ?_
    rw [hY, Int.mul_add, ← Int.mul_assoc]
    omega
  omega
theorem digit_down (hY : Y = a * 4294967296 + b) (hYp : 0 < Y) (u1 : u < Y) (d1 : d < 4294967296) (hu : q * a + r = u) (hQ : (u * 4294967296 + d) / Y ≤ q) (h : 4294967296 ≤ q ∨ 4294967296 * r + d < q * b) : (u * 4294967296 + d) / Y ≤ q - 1 := by
  have h1 := digit_lt u d Y hYp u1 d1
  rcases h with h | h
  · omega
  · have h2 := Int.ediv_mul_le (u * 4294967296 + d) (show Y ≠ 0 by omega)
    rcases Int.lt_or_le ((u * 4294967296 + d) / Y) q with h3 | h3
    · omega
    · have e : (u * 4294967296 + d) / Y = q := by omega
      rw [e, hY, Int.mul_add, ← Int.mul_assoc] at h2
      omega
theorem digit_break (hY : Y = a * 4294967296 + b) (a0 : 1 ≤ a) (b0 : 0 ≤ b) (b1 : b < 4294967296) (u1 : u < Y) (d0 : 0 ≤ d) (q0 : 0 ≤ q) (hu : q * a + r = u) (hQ : (u * 4294967296 + d) / Y ≤ q) (h : 4294967296 ≤ r) : (u * 4294967296 + d) / Y = q := by
  refine digit_done a b u d Y q r hY (by omega) hu hQ ?_
  have hq : q < 4294967296 := by
    rcases Int.lt_or_le q 4294967296 with h0 | h0
    · exact h0
    · have := Int.mul_le_mul_of_nonneg_right h0 (show 0 ≤ a by omega)
      omega
  have := Int.mul_le_mul (show q ≤ 4294967295 by omega) (show b ≤ 4294967295 by omega) b0 (by omega)
  omega
end Go.Proofs.Ytadlnmckcnfacaa
namespace Go.Proofs.Ytadlnmckcnfacaa
open Go.RowKit Go.Rt
theorem two_steps (a1 a2 d : Int) (h1 : 0 ≤ a1) (h2 : 0 ≤ a2) (h3 : a2 < 18446744073709551616) (d0 : 1 ≤ d) :
    (a1 * 18446744073709551616 + a2) / d / 18446744073709551616 = a1 / d ∧ (a1 * 18446744073709551616 + a2) / d % 18446744073709551616 = (a1 % d * 18446744073709551616 + a2) / d ∧ (a1 * 18446744073709551616 + a2) % d = (a1 % d * 18446744073709551616 + a2) % d := by
  have e1 := Int.mul_ediv_add_emod a1 d
  have r0 : 0 ≤ a1 % d := Int.emod_nonneg _ (by omega)
  have r1 : a1 % d < d := Int.emod_lt_of_pos _ (by omega)
  obtain ⟨Q1, hQ1⟩ : ∃ q, a1 / d = q := ⟨_, rfl⟩
  obtain ⟨R1, hR1⟩ : ∃ q, a1 % d = q := ⟨_, rfl⟩
  rw [hQ1, hR1] at e1
  rw [hR1] at r0 r1
  rw [hQ1, hR1]
  have e0 := Int.mul_ediv_add_emod (R1 * 18446744073709551616 + a2) d
  have s0 : 0 ≤ (R1 * 18446744073709551616 + a2) % d := Int.emod_nonneg _ (by omega)
  have s1 : (R1 * 18446744073709551616 + a2) % d < d := Int.emod_lt_of_pos _ (by omega)
  have q1 : (R1 * 18446744073709551616 + a2) / d < 18446744073709551616 := Int.ediv_lt_of_lt_mul (by omega) (by omega)
  have q0 : 0 ≤ (R1 * 18446744073709551616 + a2) / d := Int.ediv_nonneg (by omega) (by omega)
  obtain ⟨Q0, hQ0⟩ : ∃ q, (R1 * 18446744073709551616 + a2) / d = q := ⟨_, rfl⟩
  obtain ⟨R0, hR0⟩ : ∃ q, (R1 * 18446744073709551616 + a2) % d = q := ⟨_, rfl⟩
  rw [hQ0, hR0] at e0
  rw [hQ0] at q0 q1
  rw [hR0] at s0 s1
  rw [hQ0, hR0]
  obtain ⟨hq, hr⟩ := norm_told (a1 * 18446744073709551616 + a2) d 1 (Q1 * 18446744073709551616 + Q0) R0 (by omega) (by rw [Int.mul_one, Int.mul_one, Int.add_mul, Int.mul_right_comm, Int.mul_comm Q1 d, Int.mul_comm Q0 d]; omega) s0 (by omega)
  rw [Int.ediv_one] at hr
  rw [← hq, ← hr]
  exact ⟨by omega, by omega, rfl⟩
/-- The quotient, rounded down. -/
def downI (n d : Int) : Int :=
  if (decide (n < 0) != decide (d < 0)) = true then -(if ((decide (n < 0) != decide (d < 0)) && decide (¬ absI n % absI d = 0)) = true then absI n / absI d + 1 else absI n / absI d)
  else (if ((decide (n < 0) != decide (d < 0)) && decide (¬ absI n % absI d = 0)) = true then absI n / absI d + 1 else absI n / absI d)
theorem A_pos (h l : Int) (a : WR h l) (hz : ¬ (h = 0 ∧ l = 0)) : 1 ≤ A h l := by
  obtain ⟨_, _, _, _⟩ := a
  unfold A V
  split <;> omega
def digF (B : Nat) : Nat → Nat → List Int
  | 0, _ => []
  | f + 1, m => if m = 0 then [] else ((m % B : Nat) : Int) :: digF B f (m / B)
/-- The digits of a number, none of 0 on top. -/
def dig (B m : Nat) : List Int := digF B m m
/-- Digits, each in its range. -/
def Rng (B : Nat) (xs : List Int) : Prop := ∀ x ∈ xs, 0 ≤ x ∧ x < B
theorem Rng.getD {B : Nat} {xs : List Int} (h : Rng B xs) (hB : 1 ≤ B) (k : Nat) : 0 ≤ xs[k]?.getD 0 ∧ xs[k]?.getD 0 < B := by
  by_cases hk : k < xs.length
  · rw [List.getElem?_eq_getElem hk]
    exact h _ (List.getElem_mem hk)
  · rw [List.getElem?_eq_none (by omega)]
    simp only [Option.getD_none]
    omega
/-- A number in memory, by its limbs; by digits of 32 bits. -/
structure NAt (w : World) (hi : Nat) (a : Option Addr) (c m : Nat) : Prop where
  li : Ints .u64 w hi a (dig 18446744073709551616 m)
  c1 : (dig 18446744073709551616 m).length ≤ c
  c2 : c ≤ 9223372036854775807
structure HAt (w : World) (hi : Nat) (a : Option Addr) (c m : Nat) : Prop where
  li : Ints .u32 w hi a (dig 4294967296 m)
  c1 : (dig 4294967296 m).length ≤ c
  c2 : c ≤ 9223372036854775807
theorem NAt.below {w w' : World} {hi B : Nat} {a : Option Addr} {c m : Nat} (h : NAt w hi a c m) (hb : Below B w w') (hB : hi ≤ B) : NAt w' hi a c m := ⟨h.li.below hb hB, h.c1, h.c2⟩
theorem NAt.mono {w : World} {hi hi' : Nat} {a : Option Addr} {c m : Nat} (h : NAt w hi a c m) (hh : hi ≤ hi') : NAt w hi' a c m := ⟨h.li.mono hh, h.c1, h.c2⟩
theorem NAt.next {w w' : World} {a : Option Addr} {c m : Nat} (h : NAt w w.heap.size a c m) (hb : Below w.heap.size w w') : NAt w' w'.heap.size a c m := (h.below hb (Nat.le_refl _)).mono hb.size
theorem HAt.below {w w' : World} {hi B : Nat} {a : Option Addr} {c m : Nat} (h : HAt w hi a c m) (hb : Below B w w') (hB : hi ≤ B) : HAt w' hi a c m := ⟨h.li.below hb hB, h.c1, h.c2⟩
theorem HAt.mono {w : World} {hi hi' : Nat} {a : Option Addr} {c m : Nat} (h : HAt w hi a c m) (hh : hi ≤ hi') : HAt w hi' a c m := ⟨h.li.mono hh, h.c1, h.c2⟩
theorem HAt.next {w w' : World} {a : Option Addr} {c m : Nat} (h : HAt w w.heap.size a c m) (hb : Below w.heap.size w w') : HAt w' w'.heap.size a c m := (h.below hb (Nat.le_refl _)).mono hb.size
/-- A slice of memory that is no older than B. -/
def Fresh (B : Nat) (a : Option Addr) : Prop := ∀ x, a = some x → B ≤ x.block
theorem Fresh.mono {B B' : Nat} {a : Option Addr} (h : Fresh B a) (hb : B' ≤ B) : Fresh B' a := fun x hx => Nat.le_trans hb (h x hx)
structure NBox2 (w : World) (b : Nat) (v0 v1 : Value) : Prop where
  c0 : w.cell? ⟨b, 0, none⟩ = some v0
  c1 : w.cell? ⟨b, 1, none⟩ = some v1
  f0 : w.frozen? ⟨b, 0, none⟩ = false
  f1 : w.frozen? ⟨b, 1, none⟩ = false
theorem NBox2.below {w w' : World} {b n : Nat} {v0 v1 : Value} (h : NBox2 w b v0 v1) (hb : Below n w w') (hn : b < n) : NBox2 w' b v0 v1 :=
  ⟨(hb.cell (p := ⟨b, 0, none⟩) hn).trans h.c0, (hb.cell (p := ⟨b, 1, none⟩) hn).trans h.c1, (hb.frozen (p := ⟨b, 0, none⟩) hn).trans h.f0, (hb.frozen (p := ⟨b, 1, none⟩) hn).trans h.f1⟩
/-- A size with a sign. -/
def sgnZ (neg : Bool) (m : Nat) : Int := if neg = true then -(m : Int) else (m : Int)
theorem sgnZ_self (z : Int) : sgnZ (decide (z < 0)) z.natAbs = z := by
  unfold sgnZ
  by_cases h : z < 0
  · simp [h]; omega
  · simp [h]; omega
structure ZEnv (B : Nat) (w0 W : World) (L : List (Nat × Value × Value)) (N : List (Option Addr × Nat × Nat)) : Prop where
  hB : B ≤ W.heap.size
  bel : Below B w0 W
  boxes : ∀ p ∈ L, NBox2 W p.1 p.2.1 p.2.2 ∧ p.1 < W.heap.size
  nums : ∀ p ∈ N, NAt W W.heap.size p.1 p.2.1 p.2.2
end Go.Proofs.Ytadlnmckcnfacaa
namespace Go.Proofs.Ytadlnmckcnfacaa
open Go.RowKit Go.Rt
variable {B : Nat} {w0 W W' : World} {L : List (Nat × Value × Value)} {N : List (Option Addr × Nat × Nat)}
theorem ZEnv.next (h : ZEnv B w0 W L N) (hb : Below W.heap.size W W') : ZEnv B w0 W' L N :=
  ⟨Nat.le_trans h.hB hb.size, h.bel.trans (hb.mono h.hB), fun p hp => ⟨(h.boxes p hp).1.below hb (h.boxes p hp).2, Nat.lt_of_lt_of_le (h.boxes p hp).2 hb.size⟩, fun p hp => (h.nums p hp).next hb⟩
theorem ZEnv.alloc (h : ZEnv B w0 W L N) (o : Obj) : ZEnv B w0 (W.alloc o) L N := h.next ((Below.refl _ _).alloc (Nat.le_refl _) _)
theorem ZEnv.lt (h : ZEnv B w0 W L N) (i : Nat) {b : Nat} {v0 v1 : Value} (hi : L[i]? = some (b, v0, v1)) : b < W.heap.size := (h.boxes _ (List.mem_of_getElem? hi)).2
/-- The quotient of numbers with a sign, rounded down, by sizes. -/
def floorZ (x y : Int) : Int := sgnZ (decide (x < 0) != decide (y < 0)) (x.natAbs / y.natAbs) - (if ((decide (x < 0) != decide (y < 0)) && decide (0 < x.natAbs % y.natAbs)) = true then 1 else 0)
end Go.Proofs.Ytadlnmckcnfacaa
namespace Go.Proofs.Ytadlnmckcnfacaa
open Go.RowKit Go.Rt
structure NBox3 (w : World) (b : Nat) (v0 v1 v2 : Value) : Prop where
  c0 : w.cell? ⟨b, 0, none⟩ = some v0
  c1 : w.cell? ⟨b, 1, none⟩ = some v1
  c2 : w.cell? ⟨b, 2, none⟩ = some v2
  f0 : w.frozen? ⟨b, 0, none⟩ = false
  f1 : w.frozen? ⟨b, 1, none⟩ = false
  f2 : w.frozen? ⟨b, 2, none⟩ = false
theorem NBox3.below {w w' : World} {b n : Nat} {v0 v1 v2 : Value} (h : NBox3 w b v0 v1 v2) (hb : Below n w w') (hn : b < n) : NBox3 w' b v0 v1 v2 :=
  ⟨(hb.cell (p := ⟨b, 0, none⟩) hn).trans h.c0, (hb.cell (p := ⟨b, 1, none⟩) hn).trans h.c1, (hb.cell (p := ⟨b, 2, none⟩) hn).trans h.c2, (hb.frozen (p := ⟨b, 0, none⟩) hn).trans h.f0, (hb.frozen (p := ⟨b, 1, none⟩) hn).trans h.f1, (hb.frozen (p := ⟨b, 2, none⟩) hn).trans h.f2⟩
/-- The nearest whole number to x / m, of two the even one. -/
def nearZ (x m : Int) : Int :=
  if floorZ (x * 2) m / 2 * 2 = floorZ (x * 2) m then floorZ (x * 2) m / 2
  else if x * 2 - floorZ (x * 2) m * m = 0 ∧ floorZ (x * 2) m / 2 / 2 * 2 = floorZ (x * 2) m / 2 then floorZ (x * 2) m / 2
  else floorZ (x * 2) m / 2 + 1
theorem absI_pos {d : Int} (hd : d ≠ 0) : 1 ≤ absI d := by unfold absI; split <;> omega
/-- By sizes: K times D is at most half of D away from N. -/
theorem half_size {N D q r K : Int} (hD : 1 ≤ D) (hN : N = q * D + r) (h0 : 0 ≤ r) (h1 : r < D) (hK : K = if upR q r D = true then q + 1 else q) : 2 * absI (N - K * D) ≤ D ∧ (2 * absI (N - K * D) = D → K % 2 = 0) := by
  by_cases hu : upR q r D = true
  · rw [if_pos hu] at hK
    have e : N - K * D = r - D := by rw [hN, hK, Int.add_mul]; omega
    rw [e]
    unfold upR at hu
    simp only [Bool.or_eq_true, Bool.and_eq_true, decide_eq_true_eq] at hu
    unfold absI
    split <;> omega
  · rw [if_neg hu] at hK
    have e : N - K * D = r := by rw [hN, hK]; omega
    rw [e]
    unfold upR at hu
    simp only [Bool.or_eq_true, Bool.and_eq_true, decide_eq_true_eq, not_or, not_and] at hu
    unfold absI
    split <;> omega
theorem round_half (x d : Int) (hd : d ≠ 0) : 2 * absI (x - roundI x d * d) ≤ absI d ∧ (2 * absI (x - roundI x d * d) = absI d → roundI x d % 2 = 0) := by
  have hD := absI_pos hd
  have hN := Int.mul_ediv_add_emod (absI x) (absI d)
  have h0 := Int.emod_nonneg (absI x) (show absI d ≠ 0 by omega)
  have h1 := Int.emod_lt_of_pos (absI x) (show 0 < absI d by omega)
  obtain ⟨K, hK⟩ : ∃ K, K = if upR (absI x / absI d) (absI x % absI d) (absI d) = true then absI x / absI d + 1 else absI x / absI d := ⟨_, rfl⟩
  have hs := half_size hD (q := absI x / absI d) (r := absI x % absI d) (N := absI x) (by rw [Int.mul_comm]; exact hN.symm) h0 h1 hK
  have hR : roundI x d = if (decide (x < 0) != decide (d < 0)) = true then -K else K := by unfold roundI; rw [← hK]
  obtain ⟨D, hDe⟩ : ∃ D, absI d = D := ⟨_, rfl⟩
  obtain ⟨N, hNe⟩ : ∃ N, absI x = N := ⟨_, rfl⟩
  rw [hDe, hNe] at hs
  rw [hDe]
  have key : absI (x - roundI x d * d) = absI (N - K * D) := by
    by_cases a : x < 0
    · have ex : x = -N := by rw [← hNe]; unfold absI; rw [if_pos a]; omega
      by_cases b : d < 0
      · have ed : d = -D := by rw [← hDe]; unfold absI; rw [if_pos b]; omega
        rw [hR, decide_eq_true a, decide_eq_true b, if_neg (by decide)]
        have e : x - K * d = -(N - K * D) := by rw [ex, ed, Int.mul_neg]; omega
        rw [e]
        unfold absI
        split <;> split <;> omega
      · have ed : d = D := by rw [← hDe]; unfold absI; rw [if_neg b]
        rw [hR, decide_eq_true a, decide_eq_false b, if_pos (by decide)]
        have e : x - -K * d = -(N - K * D) := by rw [ex, ed, Int.neg_mul]; omega
        rw [e]
        unfold absI
        split <;> split <;> omega
    · have ex : x = N := by rw [← hNe]; unfold absI; rw [if_neg a]
      by_cases b : d < 0
      · have ed : d = -D := by rw [← hDe]; unfold absI; rw [if_pos b]; omega
        rw [hR, decide_eq_false a, decide_eq_true b, if_pos (by decide)]
        have e : x - -K * d = N - K * D := by rw [ex, ed, Int.neg_mul_neg]
        rw [e]
      · have ed : d = D := by rw [← hDe]; unfold absI; rw [if_neg b]
        rw [hR, decide_eq_false a, decide_eq_false b, if_neg (by decide)]
        rw [← ex, ← ed]
  rw [key]
  refine ⟨hs.1, fun h => ?_⟩
  have := hs.2 h
  rw [hR]
  split <;> omega
theorem absI_neg' (s : Int) : absI (-s) = absI s := by unfold absI; split <;> split <;> omega
theorem absI_natAbs (s : Int) : absI s = (s.natAbs : Int) := by unfold absI; split <;> omega
def ratX (x y : Int) : Int := if y < 0 then -x else x
def ratQ (x y : Int) : Int := sgnZ (decide (ratX x y < 0)) ((ratX x y).natAbs / Nat.gcd (ratX x y).natAbs y.natAbs)
def ratK (x y : Int) : Nat := y.natAbs / Nat.gcd (ratX x y).natAbs y.natAbs
theorem ratK_pos {x y : Int} (hy : y ≠ 0) : 0 < ratK x y := Nat.div_pos (Nat.gcd_le_right _ (by omega)) (Nat.gcd_pos_of_pos_right _ (by omega))
theorem floor_down {x y : Int} : floorZ x y = downI x y := by
  have e1 : absI x = (x.natAbs : Int) := absI_natAbs x
  have e2 : absI y = (y.natAbs : Int) := absI_natAbs y
  unfold floorZ downI
  rw [e1, e2, ← Int.natCast_ediv, ← Int.natCast_emod]
  generalize x.natAbs / y.natAbs = m
  generalize x.natAbs % y.natAbs = r
  have er : decide (¬ (r : Int) = 0) = decide (0 < r) := decide_eq_decide.2 (by omega)
  rw [er]
  unfold sgnZ
  cases hs : (decide (x < 0) != decide (y < 0))
  · simp
  · cases hr : decide (0 < r)
    · simp
    · simp; omega
/-- A nearest one: at most half of the divisor away; at a half the even one. -/
def Nearest (x d K : Int) : Prop := 2 * absI (x - K * d) ≤ absI d ∧ (2 * absI (x - K * d) = absI d → K % 2 = 0)
theorem nearest_unique {x d K K' : Int} (hd : 0 < d) (h : Nearest x d K) (h' : Nearest x d K') : K = K' := by
  obtain ⟨a1, a2⟩ := h
  obtain ⟨b1, b2⟩ := h'
  have ed : absI d = d := by unfold absI; rw [if_neg (by omega)]
  rw [ed] at a1 a2 b1 b2
  have key : ∀ A B : Int, A < B → 2 * absI (x - A * d) ≤ d → (2 * absI (x - A * d) = d → A % 2 = 0) → 2 * absI (x - B * d) ≤ d → (2 * absI (x - B * d) = d → B % 2 = 0) → False := by
    intro A B hlt p1 p2 q1 q2
    obtain ⟨t, ht⟩ : ∃ t, B = A + 1 + t := ⟨B - A - 1, by omega⟩
    have ht0 : 0 ≤ t := by omega
    have e : B * d = A * d + d + t * d := by rw [ht, Int.add_mul, Int.add_mul, Int.one_mul]
    have htd : 0 ≤ t * d := Int.mul_nonneg ht0 (by omega)
    rw [e] at q1 q2
    generalize A * d = U at *
    have h1 : t * d = 0 := by
      unfold absI at p1 q1
      split at p1 <;> split at q1 <;> omega
    have ht1 : t = 0 := by
      rcases Int.mul_eq_zero.1 h1 with h | h
      · exact h
      · omega
    rw [h1] at q1 q2
    have h2 : 2 * absI (x - U) = d ∧ 2 * absI (x - (U + d + 0)) = d := by
      unfold absI at p1 q1 ⊢
      split at p1 <;> split at q1 <;> (repeat' split) <;> omega
    have := p2 h2.1
    have := q2 h2.2
    omega
  rcases Int.lt_trichotomy K K' with hlt | he | hgt
  · exact (key K K' hlt a1 a2 b1 b2).elim
  · exact he
  · exact (key K' K hgt b1 b2 a1 a2).elim
theorem nearest_round (x d : Int) (hd : d ≠ 0) : Nearest x d (roundI x d) := round_half x d hd
theorem nearest_scale {x d K g : Int} (hg : 0 < g) (h : Nearest x d K) : Nearest (g * x) (g * d) K := by
  obtain ⟨h1, h2⟩ := h
  have e : g * x - K * (g * d) = g * (x - K * d) := by rw [Int.mul_sub, Int.mul_left_comm]
  have ea : ∀ s : Int, absI (g * s) = g * absI s := fun s => by
    unfold absI
    by_cases hs : s < 0
    · rw [if_pos hs, if_pos (Int.mul_neg_of_pos_of_neg hg hs), Int.mul_neg]
    · rw [if_neg hs, if_neg (by have := Int.mul_nonneg (show 0 ≤ g by omega) (show 0 ≤ s by omega); omega)]
  unfold Nearest
  rw [e, ea, ea]
  have e2 : 2 * (g * absI (x - K * d)) = g * (2 * absI (x - K * d)) := Int.mul_left_comm _ _ _
  rw [e2]
  exact ⟨Int.mul_le_mul_of_nonneg_left h1 (by omega), fun he => h2 (Int.eq_of_mul_eq_mul_left (by omega) he)⟩
/-- What the reference reckons is a nearest one. -/
theorem nearZ_nearest (x m : Int) (hm : 0 < m) : Nearest x m (nearZ x m) := by
  have hfl : floorZ (x * 2) m = x * 2 / m := by
    have e := floor_down (x := x * 2) (y := m)
    rw [e]
    unfold downI
    have em : absI m = m := by unfold absI; rw [if_neg (by omega)]
    have nm : decide (m < 0) = false := by simp; omega
    rw [em, nm]
    have ea := Int.mul_ediv_add_emod (x * 2) m
    by_cases hx : x * 2 < 0
    · have ex : absI (x * 2) = -(x * 2) := by unfold absI; rw [if_pos hx]
      rw [ex, decide_eq_true hx]
      have eb := Int.mul_ediv_add_emod (-(x * 2)) m
      have r0 := Int.emod_nonneg (-(x * 2)) (show m ≠ 0 by omega)
      have r1 := Int.emod_lt_of_pos (-(x * 2)) hm
      generalize -(x * 2) / m = q at *
      generalize hr : -(x * 2) % m = r at *
      by_cases h0 : r = 0
      · have : x * 2 = m * (-q) := by rw [Int.mul_neg]; omega
        rw [this, Int.mul_ediv_cancel_left _ (by omega)]
        simp [h0]
      · have : x * 2 = (m - r) + m * (-(q + 1)) := by rw [Int.mul_neg, Int.mul_add, Int.mul_one]; omega
        rw [this, Int.add_mul_ediv_left _ _ (by omega), Int.ediv_eq_zero_of_lt (by omega) (by omega)]
        simp [h0]
    · have ex : absI (x * 2) = x * 2 := by unfold absI; rw [if_neg hx]
      rw [ex, decide_eq_false hx]
      simp
  unfold nearZ
  rw [hfl]
  have ea := Int.mul_ediv_add_emod (x * 2) m
  have r0 := Int.emod_nonneg (x * 2) (show m ≠ 0 by omega)
  have r1 := Int.emod_lt_of_pos (x * 2) hm
  have em : absI m = m := by unfold absI; rw [if_neg (by omega)]
  obtain ⟨q, hq⟩ : ∃ q, x * 2 / m = q := ⟨_, rfl⟩
  obtain ⟨r, hr⟩ : ∃ r, x * 2 % m = r := ⟨_, rfl⟩
  rw [hq] at ea ⊢
  rw [hr] at ea r0 r1
  rw [Int.mul_comm m q] at ea
  obtain ⟨h, s, hs, e⟩ : ∃ h s : Int, q / 2 = h ∧ q = 2 * h + s := ⟨q / 2, q % 2, rfl, by omega⟩
  have hsb : s = 0 ∨ s = 1 := by omega
  rw [hs]
  have eq : q * m = 2 * (h * m) + s * m := by rw [e, Int.add_mul, Int.mul_assoc]
  rw [eq] at ea
  unfold Nearest
  rw [em]
  rcases hsb with rfl | rfl
  · rw [if_pos (by omega)]
    rw [Int.zero_mul] at ea
    unfold absI
    split <;> omega
  · rw [if_neg (by omega)]
    rw [Int.one_mul] at ea
    split
    · rename_i hc
      obtain ⟨hc1, hc2⟩ := hc
      rw [eq, Int.one_mul] at hc1
      unfold absI
      split <;> omega
    · rename_i hc
      have e3 : (h + 1) * m = h * m + m := by rw [Int.add_mul, Int.one_mul]
      rw [e3]
      have hc2 : x * 2 - q * m = 0 → ¬ h / 2 * 2 = h := fun h1 h2 => hc ⟨h1, h2⟩
      rw [eq, Int.one_mul] at hc2
      generalize h * m = hm at *
      unfold absI
      split <;> omega
/-- The reference's nearest one is the program's. -/
theorem near_round (x y : Int) (hy : y ≠ 0) : nearZ (ratQ x y) (ratK x y) = roundI x y := by
  have hkp : 0 < ratK x y := ratK_pos hy
  obtain ⟨G, hG⟩ : ∃ G, Nat.gcd (ratX x y).natAbs y.natAbs = G := ⟨_, rfl⟩
  have hG0 : 0 < G := by rw [← hG]; exact Nat.gcd_pos_of_pos_right _ (by omega)
  have d1 : G ∣ (ratX x y).natAbs := by rw [← hG]; exact Nat.gcd_dvd_left _ _
  have d2 : G ∣ y.natAbs := by rw [← hG]; exact Nat.gcd_dvd_right _ _
  have e1 : (G : Int) * ratQ x y = ratX x y := by
    unfold ratQ
    rw [hG]
    obtain ⟨t, ht⟩ := d1
    have e : (ratX x y).natAbs / G = t := by rw [ht, Nat.mul_div_cancel_left _ hG0]
    rw [e]
    have hself := sgnZ_self (ratX x y)
    rw [ht] at hself
    rw [← hself]
    conv => lhs; rw [hself]
    unfold sgnZ
    split
    · rw [Int.natCast_mul, Int.mul_neg]
    · rw [Int.natCast_mul]
  have e2 : (G : Int) * (ratK x y : Int) = (y.natAbs : Int) := by
    unfold ratK
    rw [hG, ← Int.natCast_mul, Nat.mul_div_cancel' d2]
  have hn := nearest_scale (g := (G : Int)) (by omega) (nearZ_nearest (ratQ x y) (ratK x y) (by omega))
  rw [e1, e2] at hn
  have hy0 : (0 : Int) < (y.natAbs : Int) := by omega
  refine nearest_unique hy0 hn ?_
  have hr := nearest_round x y hy
  unfold Nearest at hr ⊢
  unfold ratX
  have ea : absI (y.natAbs : Int) = absI y := by unfold absI; (repeat' split) <;> omega
  rw [ea]
  by_cases hneg : y < 0
  · rw [if_pos hneg]
    have e : -x - roundI x y * (y.natAbs : Int) = -(x - roundI x y * y) := by
      have : (y.natAbs : Int) = -y := by omega
      rw [this, Int.mul_neg]
      omega
    rw [e, absI_neg']
    exact hr
  · rw [if_neg hneg]
    have : (y.natAbs : Int) = y := by omega
    rw [this]
    exact hr
end Go.Proofs.Ytadlnmckcnfacaa
