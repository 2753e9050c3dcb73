/- Walks: wide numbers, rounded. -/
import Derived.Test.YtmjcpgfekpedkaaRows
import Derived.Test.YtmjcpgfekpedkaaBase
import Derived.Test.YtmjcpgfekpedkaaEnv
import Derived.Test.YtmjcpgfekpedkaaOpen
import Derived.Test.YtmjcpgfekpedkaaShape
import Derived.Test.YtmjcpgfekpedkaaFr
import Derived.Test.YtmjcpgfekpedkaaFrJ
import Derived.Test.YtmjcpgfekpedkaaMTake
import Derived.Test.YtmjcpgfekpedkaaParts
import Derived.BigQuiet
import Derived.BigRegion
import Derived.ChangeKeysEq
import Derived.Deep.Cut
import Derived.Deep.CutBlock
import Derived.Deep.CutRange
import Derived.Deep.LoopGhost
import Derived.Deep.RegionHeld3
import Derived.Deep.RegionWith
import Derived.Laws.BitsAllLaws
import Derived.Laws.BitsLemmas
import Derived.Laws.Externs
import Derived.Lib.BitFns
import Derived.Lib.Slices
import Derived.Lib.Small
import Derived.Lib.Strings
import Derived.Lib.Walk
import Derived.Shelf.Spec.BitsCarry
import Derived.Sort.AtCall
import Derived.WalkMore
set_option linter.unusedVariables false
set_option linter.unusedSimpArgs false
namespace Go.Proofs.Ytmjcpgfekpedkaa
open Go.RowKit Go.Rt
set_option maxRecDepth 100000
/-- The number that two words say. -/
def V (h l : Int) : Int := h * 18446744073709551616 + l
structure WR (h l : Int) : Prop where
  h0 : -9223372036854775808 ≤ h
  h1 : h ≤ 9223372036854775807
  l0 : 0 ≤ l
  l1 : l ≤ 18446744073709551615
def inR (s : Int) : Prop := -170141183460469231731687303715884105728 ≤ s ∧ s ≤ 170141183460469231731687303715884105727
theorem wrapU (y : Int) : IntKind.u64.wrap y = y % 18446744073709551616 := by
  simp [IntKind.wrap, IntKind.signed, IntKind.bits]
theorem run_add (x y c : Int) (hx : 0 ≤ x) (hy : 0 ≤ y) (hc0 : 0 ≤ c) (hc : c ≤ 1) (w : World) :
    (callFunc 62 #[.int .u64 x, .int .u64 y, .int .u64 c]).run Try.prog w = .ok (.value (.tuple #[.int .u64 ((x + y + c) % 18446744073709551616), .int .u64 ((x + y + c) / 18446744073709551616)])) w := by
  rw [run_callFunc_extern Try.func62 (by kernel_rfl) (by kernel_rfl) (by kernel_rfl) (e := add64Entry) (by kernel_rfl), run_add64 x y c hx hy hc0 hc]
  rfl
theorem run_sub (x y b : Nat) (hb : b ≤ 1) (w : World) :
    (callFunc 92 #[.int .u64 x, .int .u64 y, .int .u64 b]).run Try.prog w =
      .ok (.value (.tuple #[.int .u64 (((x + 18446744073709551616 - y - b) % 18446744073709551616 : Nat) : Int), .int .u64 ((if x < y + b then 1 else 0 : Nat) : Int)])) w := by
  rw [run_callFunc_extern Try.func92 (by kernel_rfl) (by kernel_rfl) (by kernel_rfl) (e := sub64Entry) (by kernel_rfl), run_sub64 x y b hb]
  rfl
theorem run_subI (x y b : Int) (hx : 0 ≤ x) (hx1 : x ≤ 18446744073709551615) (hy : 0 ≤ y) (hy1 : y ≤ 18446744073709551615) (hb0 : 0 ≤ b) (hb : b ≤ 1) (w : World) :
    (callFunc 92 #[.int .u64 x, .int .u64 y, .int .u64 b]).run Try.prog w = .ok (.value (.tuple #[.int .u64 ((x - y - b) % 18446744073709551616), .int .u64 (-((x - y - b) / 18446744073709551616))])) w := by
  obtain ⟨X, rfl⟩ := Int.eq_ofNat_of_zero_le hx
  obtain ⟨Y, rfl⟩ := Int.eq_ofNat_of_zero_le hy
  obtain ⟨B, rfl⟩ := Int.eq_ofNat_of_zero_le hb0
  have := run_sub X Y B (by omega) w
  rw [this]
  have e1 : (((X + 18446744073709551616 - Y - B) % 18446744073709551616 : Nat) : Int) = ((X : Int) - Y - B) % 18446744073709551616 := by omega
  have e2 : ((if X < Y + B then 1 else 0 : Nat) : Int) = -(((X : Int) - Y - B) / 18446744073709551616) := by split <;> omega
  rw [e1, e2]
end Go.Proofs.Ytmjcpgfekpedkaa
namespace Go.Proofs.Ytmjcpgfekpedkaa
open Go.RowKit Go.Rt
set_option maxRecDepth 100000
attribute [local go_sem] run_add run_subI
def RetW (w : World) (h l : Int) (e : Ending) (w' : World) : Prop := e = .returned (.agg #[.int .i64 h, .int .u64 l]) ∧ Below w.heap.size w w'
def RetWE (w : World) (h l z : Int) (e : Ending) (w' : World) : Prop := e = .returned (.tuple #[.agg #[.int .i64 h, .int .u64 l], .int .i64 z]) ∧ Below w.heap.size w w'
theorem results_c1 {fn : Func} {p : Tmp} {ty : TypeId} (h : fn.results = #[.cell p ty]) (tmps : Array Value) (P : Program) (w : World) :
    (results fn tmps).run P w = ((asAddr (tmps.getD p undef)).run P w).andThen fun a w₁ => (loadVar ty a).run P w₁ := by
  simp only [results, h]
  simp [Sem.run_bind, Result.andThen]
theorem results_ct {fn : Func} {p z : Tmp} {ty : TypeId} (h : fn.results = #[.cell p ty, .tmp z]) (tmps : Array Value) (P : Program) (w : World) :
    (results fn tmps).run P w = ((asAddr (tmps.getD p undef)).run P w).andThen fun a w₁ => ((loadVar ty a).run P w₁).andThen fun v w₂ => .ok (.tuple #[v, tmps.getD z undef]) w₂ := by
  simp only [results, h]
  simp [Sem.run_bind, Result.andThen]
theorem from_any (x : Int) (w : World) (h0 : -9223372036854775808 ≤ x) (h1 : x ≤ 9223372036854775807) :
    Calls Try.prog 36 #[.int .i64 x] w (RetW w (x / 9223372036854775808) (x % 18446744073709551616)) := by
  have hw : IntKind.u64.wrap x = x % 18446744073709551616 := wrapU x
  go_enter Try.func36, Try.ntmps36
  go_wp2
  exact bodyPost_ret (v := .agg #[.int .i64 (x / 9223372036854775808), .int .u64 (x % 18446744073709551616)]) (by rw [results_c1 rfl]; go_simp) rfl ⟨rfl, (by (repeat' (first | exact Below.refl _ _ | refine Below.drew ?_ | refine Below.setCell ?_ (by first | omega | (simp <;> omega)) _ | refine Below.alloc ?_ (by first | omega | (simp <;> omega)) _)))⟩
theorem add_in (h l h' l' : Int) (w : World) (a : WR h l) (b : WR h' l') (hin : inR (V h l + V h' l')) :
    Calls Try.prog 35 #[.agg #[.int .i64 h, .int .u64 l], .agg #[.int .i64 h', .int .u64 l']] w (RetWE w ((V h l + V h' l') / 18446744073709551616) ((V h l + V h' l') % 18446744073709551616) 0) := by
  obtain ⟨a0, a1, a2, a3⟩ := a
  obtain ⟨b0, b1, b2, b3⟩ := b
  unfold inR V at hin
  have hL : V h l + V h' l' = V h l + V h' l' := rfl
  obtain ⟨HI, hH⟩ : ∃ y, (V h l + V h' l') / 18446744073709551616 = y := ⟨_, rfl⟩
  obtain ⟨LO, hLO⟩ : ∃ y, (V h l + V h' l') % 18446744073709551616 = y := ⟨_, rfl⟩
  rw [hH, hLO]
  unfold V at hH hLO
  have e1 : RowKit.wrap64 (RowKit.wrap64 (h + h') + (l + l') / 18446744073709551616) = HI := by unfold RowKit.wrap64; omega
  have e2 : (l + l') % 18446744073709551616 = LO := by omega
  have e0 : h + h' + (l + l') / 18446744073709551616 = HI := by omega
  have es : h < 0 ∨ ¬ h < 0 := by omega
  have es' : h' < 0 ∨ ¬ h' < 0 := by omega
  have eh : HI < 0 ∨ ¬ HI < 0 := by omega
  have hk : (h < 0 ∧ h' < 0 → HI < 0) ∧ (¬ h < 0 ∧ ¬ h' < 0 → ¬ HI < 0) := by constructor <;> intro hh <;> omega
  clear hH hLO hin
  rcases es with es | es <;> rcases es' with es' | es' <;> rcases eh with eh | eh
  all_goals first
    | (exfalso; obtain ⟨k1, k2⟩ := hk; first | exact eh (k1 ⟨es, es'⟩) | exact k2 ⟨es, es'⟩ eh)
    | (clear hk
       go_enter Try.func35, Try.ntmps35
       go_wp2
       exact bodyPost_ret (v := .tuple #[.agg #[.int .i64 HI, .int .u64 LO], .int .i64 0]) (by rw [results_ct rfl]; go_simp <;> omega) rfl ⟨rfl, (by (repeat' (first | exact Below.refl _ _ | refine Below.drew ?_ | refine Below.setCell ?_ (by first | omega | (simp <;> omega)) _ | refine Below.alloc ?_ (by first | omega | (simp <;> omega)) _)))⟩)
theorem small_any (h l : Int) (w : World) (a : WR h l) :
    Calls Try.prog 67 #[.agg #[.int .i64 h, .int .u64 l]] w fun e w' => e = .returned (.tuple #[.int .i64 (if -9223372036854775808 ≤ V h l ∧ V h l ≤ 9223372036854775807 then V h l else 0), .bool (decide (-9223372036854775808 ≤ V h l ∧ V h l ≤ 9223372036854775807))]) ∧ Below w.heap.size w w' := by
  obtain ⟨a0, a1, a2, a3⟩ := a
  by_cases hr : -9223372036854775808 ≤ V h l ∧ V h l ≤ 9223372036854775807
  · rw [if_pos hr, decide_eq_true hr]
    unfold V at hr ⊢
    have e1 : RowKit.wrap64 l = h * 18446744073709551616 + l := by unfold RowKit.wrap64; omega
    have e2 : (h * 18446744073709551616 + l) / 9223372036854775808 = h := by omega
    go_enter Try.func67, Try.ntmps67
    go_wp2
    exact bodyPost_ret (by rw [results_tmp2 rfl]; go_simp <;> omega) rfl ⟨rfl, (by (repeat' (first | exact Below.refl _ _ | refine Below.drew ?_ | refine Below.setCell ?_ (by first | omega | (simp <;> omega)) _ | refine Below.alloc ?_ (by first | omega | (simp <;> omega)) _)))⟩
  · rw [if_neg hr, decide_eq_false hr]
    unfold V at hr
    obtain ⟨Z, hZ⟩ : ∃ y, RowKit.wrap64 l = y := ⟨_, rfl⟩
    have e2 : ¬ Z / 9223372036854775808 = h := by rw [← hZ]; unfold RowKit.wrap64; omega
    have e3 : (Z / 9223372036854775808 == h) = false := by simp; exact e2
    go_enter Try.func67, Try.ntmps67
    go_wp2
    exact bodyPost_ret (by rw [results_tmp2 rfl]; go_simp <;> omega) rfl ⟨rfl, (by (repeat' (first | exact Below.refl _ _ | refine Below.drew ?_ | refine Below.setCell ?_ (by first | omega | (simp <;> omega)) _ | refine Below.alloc ?_ (by first | omega | (simp <;> omega)) _)))⟩
theorem results_tc2 {fn : Func} {u p : Tmp} {ty : TypeId} (h : fn.results = #[.tmp u, .cell p ty]) (tmps : Array Value) (P : Program) (w : World) :
    (results fn tmps).run P w = ((asAddr (tmps.getD p undef)).run P w).andThen fun a w₁ => ((loadVar ty a).run P w₁).andThen fun v w₂ => .ok (.tuple #[tmps.getD u undef, v]) w₂ := by
  simp only [results, h]
  simp [Sem.run_bind, Result.andThen]
theorem results_cc {fn : Func} {p q : Tmp} {ty ty2 : TypeId} (h : fn.results = #[.cell p ty, .cell q ty2]) (tmps : Array Value) (P : Program) (w : World) :
    (results fn tmps).run P w = ((asAddr (tmps.getD p undef)).run P w).andThen fun a w₁ => ((loadVar ty a).run P w₁).andThen fun v w₂ => ((asAddr (tmps.getD q undef)).run P w₂).andThen fun a' w₃ => ((loadVar ty2 a').run P w₃).andThen fun v' w₄ => .ok (.tuple #[v, v']) w₄ := by
  simp only [results, h]
  simp [Sem.run_bind, Result.andThen]
theorem xor_max (l : Int) (l0 : 0 ≤ l) (l1 : l ≤ 18446744073709551615) : bits BinOp.xor IntKind.u64 IntKind.u64.max l = 18446744073709551615 - l := by
  obtain ⟨n, rfl⟩ := Int.eq_ofNat_of_zero_le l0
  show IntKind.u64.wrap ((BitVec.ofInt 64 IntKind.u64.max ^^^ BitVec.ofInt 64 (n : Int)).toNat : Int) = _
  have e : BitVec.ofInt 64 IntKind.u64.max = BitVec.allOnes 64 := by decide
  rw [e, BitVec.allOnes_xor, BitVec.toNat_not, ofInt_u64 n (by omega), wrapU]
  omega
/-- 2^128 less a size. -/
theorem minus_any (h l : Int) (w : World) (h0 : 0 ≤ h) (h1 : h ≤ 18446744073709551615) (l0 : 0 ≤ l) (l1 : l ≤ 18446744073709551615) :
    Calls Try.prog 96 #[.agg #[.int .u64 h, .int .u64 l]] w fun e w' => e = .returned (.agg #[.int .u64 ((340282366920938463463374607431768211456 - V h l) % 340282366920938463463374607431768211456 / 18446744073709551616), .int .u64 ((340282366920938463463374607431768211456 - V h l) % 340282366920938463463374607431768211456 % 18446744073709551616)]) ∧ Below w.heap.size w w' := by
  have x1 := xor_max l l0 l1
  have x2 := xor_max h h0 h1
  obtain ⟨HI, hH⟩ : ∃ y, (340282366920938463463374607431768211456 - V h l) % 340282366920938463463374607431768211456 / 18446744073709551616 = y := ⟨_, rfl⟩
  obtain ⟨LO, hLO⟩ : ∃ y, (340282366920938463463374607431768211456 - V h l) % 340282366920938463463374607431768211456 % 18446744073709551616 = y := ⟨_, rfl⟩
  rw [hH, hLO]
  unfold V at hH hLO
  have e1 : (18446744073709551615 - l + 1) % 18446744073709551616 = LO := by omega
  have e2 : IntKind.u64.wrap (18446744073709551615 - h + (18446744073709551615 - l + 1) / 18446744073709551616) = HI := by rw [wrapU]; omega
  have e3 : 0 ≤ 18446744073709551615 - l := by omega
  clear hH hLO
  go_enter Try.func96, Try.ntmps96
  go_wp2
  exact bodyPost_ret (v := .agg #[.int .u64 HI, .int .u64 LO]) (by rw [results_c1 rfl]; go_simp <;> omega) rfl ⟨rfl, (by (repeat' (first | exact Below.refl _ _ | refine Below.drew ?_ | refine Below.setCell ?_ (by first | omega | (simp <;> omega)) _ | refine Below.alloc ?_ (by first | omega | (simp <;> omega)) _)))⟩
def A (h l : Int) : Int := if V h l < 0 then -V h l else V h l
theorem A_bounds (h l : Int) (a : WR h l) : 0 ≤ A h l ∧ A h l ≤ 170141183460469231731687303715884105728 := by
  obtain ⟨a0, a1, a2, a3⟩ := a
  unfold A V
  split <;> omega
/-- The size, and whether it is below 0. -/
theorem of_any (h l : Int) (w : World) (a : WR h l) :
    Calls Try.prog 88 #[.agg #[.int .i64 h, .int .u64 l]] w fun e w' => e = .returned (.tuple #[.bool (decide (h < 0)), .agg #[.int .u64 (A h l / 18446744073709551616), .int .u64 (A h l % 18446744073709551616)]]) ∧ Below w.heap.size w w' := by
  obtain ⟨a0, a1, a2, a3⟩ := a
  by_cases hn : h < 0
  · rw [decide_eq_true hn]
    have hw : IntKind.u64.wrap h = h + 18446744073709551616 := by rw [wrapU]; omega
    have hA : A h l = -(h * 18446744073709551616 + l) := by unfold A V; rw [if_pos (by omega)]
    have hm := fun w => Lib.hid (minus_any (h + 18446744073709551616) l w (by omega) (by omega) a2 a3)
    have e0 : (340282366920938463463374607431768211456 - V (h + 18446744073709551616) l) % 340282366920938463463374607431768211456 = A h l := by rw [hA]; unfold V; omega
    rw [e0] at hm
    obtain ⟨HI, hH⟩ : ∃ y, A h l / 18446744073709551616 = y := ⟨_, rfl⟩
    obtain ⟨LO, hLO⟩ : ∃ y, A h l % 18446744073709551616 = y := ⟨_, rfl⟩
    rw [hH, hLO] at hm
    rw [hH, hLO]
    clear hH hLO e0 hA
    go_enter Try.func88, Try.ntmps88
    go_wp2_with (first
      | (go_at_call 96; go_loud (refine (hm _).out.mono ?_; rintro e w1 ⟨rfl, hb⟩; have HB := Lib.hid hb; have hs := hb.size; (try simp at hs); have j0 := (hb.cell (p := ⟨w.heap.size + 1, 0, none⟩) (by first | omega | (simp <;> omega))); have j1 := (hb.cell (p := ⟨w.heap.size + 1, 1, none⟩) (by first | omega | (simp <;> omega))); have g0 := (hb.frozen (p := ⟨w.heap.size + 1, 0, none⟩) (by first | omega | (simp <;> omega))); have g1 := (hb.frozen (p := ⟨w.heap.size + 1, 1, none⟩) (by first | omega | (simp <;> omega))); clear hb)))
    (try simp only [Exit.inBlock, Exit.then])
    refine bodyPost_ret (v := .tuple #[.bool true, .agg #[.int .u64 HI, .int .u64 LO]]) (by rw [results_tc2 rfl]; go_simp) rfl ⟨rfl, ?_⟩
    iterate 2 refine Below.setCell ?_ (by first | omega | (simp <;> omega)) _
    exact Below.trans (by (repeat' (first | exact Below.refl _ _ | refine Below.drew ?_ | refine Below.setCell ?_ (by first | omega | (simp <;> omega)) _ | refine Below.alloc ?_ (by first | omega | (simp <;> omega)) _))) (HB.out.mono (by first | omega | (simp <;> omega)))
  · rw [decide_eq_false hn]
    have hw : IntKind.u64.wrap h = h := by rw [wrapU]; omega
    have hA : A h l = h * 18446744073709551616 + l := by unfold A V; rw [if_neg (by omega)]
    have hH : A h l / 18446744073709551616 = h := by omega
    have hLO : A h l % 18446744073709551616 = l := by omega
    rw [hH, hLO]
    clear hH hLO hA
    go_enter Try.func88, Try.ntmps88
    go_wp2
    go_region
    go_wp2
    (try simp only [Exit.inBlock, Exit.then])
    exact bodyPost_ret (v := .tuple #[.bool false, .agg #[.int .u64 h, .int .u64 l]]) (by rw [results_tc2 rfl]; go_simp) rfl ⟨rfl, (by (repeat' (first | exact Below.refl _ _ | refine Below.drew ?_ | refine Below.setCell ?_ (by first | omega | (simp <;> omega)) _ | refine Below.alloc ?_ (by first | omega | (simp <;> omega)) _)))⟩
/-- A size with a sign, as a number. -/
theorem told_in (neg : Bool) (n : Int) (w : World) (n0 : 0 ≤ n) (hn : if neg = true then n ≤ 170141183460469231731687303715884105728 else n < 170141183460469231731687303715884105728) :
    Calls Try.prog 91 #[.bool neg, .agg #[.int .u64 (n / 18446744073709551616), .int .u64 (n % 18446744073709551616)]] w (RetWE w ((if neg = true then -n else n) / 18446744073709551616) ((if neg = true then -n else n) % 18446744073709551616) 0) := by
  have hHb : 0 ≤ n / 18446744073709551616 ∧ n / 18446744073709551616 ≤ 9223372036854775808 := by split at hn <;> omega
  have hLb : 0 ≤ n % 18446744073709551616 ∧ n % 18446744073709551616 ≤ 18446744073709551615 := by omega
  have hm := fun w => Lib.hid (minus_any (n / 18446744073709551616) (n % 18446744073709551616) w hHb.1 (by omega) hLb.1 hLb.2)
  have e0 : V (n / 18446744073709551616) (n % 18446744073709551616) = n := by unfold V; omega
  rw [e0] at hm
  cases neg with
  | false =>
    simp only [Bool.false_eq_true, if_false] at hn ⊢
    obtain ⟨HI, hH⟩ : ∃ y, n / 18446744073709551616 = y := ⟨_, rfl⟩
    obtain ⟨LO, hLO⟩ : ∃ y, n % 18446744073709551616 = y := ⟨_, rfl⟩
    rw [hH, hLO]
    have e1 : (HI / 9223372036854775808 == 1) = false := by simp; omega
    have e2 : RowKit.wrap64 HI = HI := by unfold RowKit.wrap64; omega
    have e3 : 0 ≤ HI := by omega
    have e5 : HI ≤ 9223372036854775807 := by omega
    have e4 : IntKind.i64.wrap HI = HI := by rw [IntKind.wrap_i64]; omega
    clear hH hLO hHb hLb hm e0
    go_enter Try.func91, Try.ntmps91
    go_wp2
    exact bodyPost_ret (v := .tuple #[.agg #[.int .i64 HI, .int .u64 LO], .int .i64 0]) (by rw [results_ct rfl]; go_simp) rfl ⟨rfl, (by (repeat' (first | exact Below.refl _ _ | refine Below.drew ?_ | refine Below.setCell ?_ (by first | omega | (simp <;> omega)) _ | refine Below.alloc ?_ (by first | omega | (simp <;> omega)) _)))⟩
  | true =>
    simp only [if_true] at hn ⊢
    obtain ⟨HI, hH⟩ : ∃ y, n / 18446744073709551616 = y := ⟨_, rfl⟩
    obtain ⟨LO, hLO⟩ : ∃ y, n % 18446744073709551616 = y := ⟨_, rfl⟩
    obtain ⟨HM, hHM⟩ : ∃ y, (340282366920938463463374607431768211456 - n) % 340282366920938463463374607431768211456 / 18446744073709551616 = y := ⟨_, rfl⟩
    obtain ⟨LM, hLM⟩ : ∃ y, (340282366920938463463374607431768211456 - n) % 340282366920938463463374607431768211456 % 18446744073709551616 = y := ⟨_, rfl⟩
    rw [hH, hLO, hHM, hLM] at hm
    rw [hH, hLO]
    have e6 : RowKit.wrap64 HM = -n / 18446744073709551616 := by unfold RowKit.wrap64; omega
    have e7 : LM = -n % 18446744073709551616 := by omega
    have e8 : 0 ≤ HM ∧ HM ≤ 18446744073709551615 := by omega
    obtain ⟨e8a, e8b⟩ := e8
    rw [← e7, ← e6]
    have e3 : 0 ≤ HI := by omega
    by_cases hT : n = 170141183460469231731687303715884105728
    · have e1 : (HI / 9223372036854775808 == 1) = true := by simp; omega
      have e5 : HI = 9223372036854775808 := by omega
      have e9 : LO = 0 := by omega
      clear hH hLO hHb hLb hHM hLM e0 e6 e7
      subst e5; subst e9
      go_enter Try.func91, Try.ntmps91
      go_wp2_with (first
        | (go_at_call 96; go_loud (refine (hm _).out.mono ?_; rintro e w1 ⟨rfl, hb⟩; have HB := Lib.hid hb; have hs := hb.size; (try simp at hs); have j00 := (hb.cell (p := ⟨w.heap.size, 0, none⟩) (by first | omega | (simp <;> omega))); have g00 := (hb.frozen (p := ⟨w.heap.size, 0, none⟩) (by first | omega | (simp <;> omega))); have j01 := (hb.cell (p := ⟨w.heap.size, 1, none⟩) (by first | omega | (simp <;> omega))); have g01 := (hb.frozen (p := ⟨w.heap.size, 1, none⟩) (by first | omega | (simp <;> omega))); have j10 := (hb.cell (p := ⟨w.heap.size + 1, 0, none⟩) (by first | omega | (simp <;> omega))); have g10 := (hb.frozen (p := ⟨w.heap.size + 1, 0, none⟩) (by first | omega | (simp <;> omega))); have j11 := (hb.cell (p := ⟨w.heap.size + 1, 1, none⟩) (by first | omega | (simp <;> omega))); have g11 := (hb.frozen (p := ⟨w.heap.size + 1, 1, none⟩) (by first | omega | (simp <;> omega))); clear hb)))
      refine bodyPost_ret (v := .tuple #[.agg #[.int .i64 (RowKit.wrap64 HM), .int .u64 LM], .int .i64 0]) (by rw [results_ct rfl]; go_simp) rfl ⟨rfl, ?_⟩
      iterate 4 refine Below.setCell ?_ (by first | omega | (simp <;> omega)) _
      exact Below.trans (by (repeat' (first | exact Below.refl _ _ | refine Below.drew ?_ | refine Below.setCell ?_ (by first | omega | (simp <;> omega)) _ | refine Below.alloc ?_ (by first | omega | (simp <;> omega)) _))) (HB.out.mono (by first | omega | (simp <;> omega)))
    · have e1 : (HI / 9223372036854775808 == 1) = false := by simp; omega
      clear hH hLO hHb hLb hHM hLM e0 e6 e7
      go_enter Try.func91, Try.ntmps91
      go_wp2_with (first
        | (go_at_call 96; go_loud (refine (hm _).out.mono ?_; rintro e w1 ⟨rfl, hb⟩; have HB := Lib.hid hb; have hs := hb.size; (try simp at hs); have j00 := (hb.cell (p := ⟨w.heap.size, 0, none⟩) (by first | omega | (simp <;> omega))); have g00 := (hb.frozen (p := ⟨w.heap.size, 0, none⟩) (by first | omega | (simp <;> omega))); have j01 := (hb.cell (p := ⟨w.heap.size, 1, none⟩) (by first | omega | (simp <;> omega))); have g01 := (hb.frozen (p := ⟨w.heap.size, 1, none⟩) (by first | omega | (simp <;> omega))); have j10 := (hb.cell (p := ⟨w.heap.size + 1, 0, none⟩) (by first | omega | (simp <;> omega))); have g10 := (hb.frozen (p := ⟨w.heap.size + 1, 0, none⟩) (by first | omega | (simp <;> omega))); have j11 := (hb.cell (p := ⟨w.heap.size + 1, 1, none⟩) (by first | omega | (simp <;> omega))); have g11 := (hb.frozen (p := ⟨w.heap.size + 1, 1, none⟩) (by first | omega | (simp <;> omega))); clear hb)))
      refine bodyPost_ret (v := .tuple #[.agg #[.int .i64 (RowKit.wrap64 HM), .int .u64 LM], .int .i64 0]) (by rw [results_ct rfl]; go_simp) rfl ⟨rfl, ?_⟩
      iterate 4 refine Below.setCell ?_ (by first | omega | (simp <;> omega)) _
      exact Below.trans (by (repeat' (first | exact Below.refl _ _ | refine Below.drew ?_ | refine Below.setCell ?_ (by first | omega | (simp <;> omega)) _ | refine Below.alloc ?_ (by first | omega | (simp <;> omega)) _))) (HB.out.mono (by first | omega | (simp <;> omega)))
theorem told_out (neg : Bool) (n : Int) (w : World) (n0 : 0 ≤ n) (n1 : n < 340282366920938463463374607431768211456) (hn : if neg = true then 170141183460469231731687303715884105728 < n else 170141183460469231731687303715884105728 ≤ n) :
    Calls Try.prog 91 #[.bool neg, .agg #[.int .u64 (n / 18446744073709551616), .int .u64 (n % 18446744073709551616)]] w (RetWE w 0 0 3) := by
  obtain ⟨HI, hH⟩ : ∃ y, n / 18446744073709551616 = y := ⟨_, rfl⟩
  obtain ⟨LO, hLO⟩ : ∃ y, n % 18446744073709551616 = y := ⟨_, rfl⟩
  rw [hH, hLO]
  have e1 : (HI / 9223372036854775808 == 1) = true := by simp; split at hn <;> omega
  have e3 : 0 ≤ HI := by omega
  cases neg with
  | false =>
    clear hH hLO
    go_enter Try.func91, Try.ntmps91
    go_wp2
    exact bodyPost_ret (v := .tuple #[.agg #[.int .i64 0, .int .u64 0], .int .i64 3]) (by rw [results_ct rfl]; go_simp) rfl ⟨rfl, (by (repeat' (first | exact Below.refl _ _ | refine Below.drew ?_ | refine Below.setCell ?_ (by first | omega | (simp <;> omega)) _ | refine Below.alloc ?_ (by first | omega | (simp <;> omega)) _)))⟩
  | true =>
    simp only [if_true] at hn
    by_cases h1 : HI = 9223372036854775808
    · have h2 : ¬ LO = 0 := by omega
      have h3 : (LO == 0) = false := by simp; exact h2
      clear hH hLO
      subst h1
      go_enter Try.func91, Try.ntmps91
      go_wp2
      exact bodyPost_ret (v := .tuple #[.agg #[.int .i64 0, .int .u64 0], .int .i64 3]) (by rw [results_ct rfl]; go_simp) rfl ⟨rfl, (by (repeat' (first | exact Below.refl _ _ | refine Below.drew ?_ | refine Below.setCell ?_ (by first | omega | (simp <;> omega)) _ | refine Below.alloc ?_ (by first | omega | (simp <;> omega)) _)))⟩
    · have h3 : (HI == 9223372036854775808) = false := by simp; exact h1
      clear hH hLO
      go_enter Try.func91, Try.ntmps91
      go_wp2
      exact bodyPost_ret (v := .tuple #[.agg #[.int .i64 0, .int .u64 0], .int .i64 3]) (by rw [results_ct rfl]; go_simp) rfl ⟨rfl, (by (repeat' (first | exact Below.refl _ _ | refine Below.drew ?_ | refine Below.setCell ?_ (by first | omega | (simp <;> omega)) _ | refine Below.alloc ?_ (by first | omega | (simp <;> omega)) _)))⟩
theorem less_any (h l h' l' : Int) (w : World) (l0 : 0 ≤ l) (l1 : l ≤ 18446744073709551615) (l0' : 0 ≤ l') (l1' : l' ≤ 18446744073709551615) :
    Calls Try.prog 66 #[.agg #[.int .u64 h, .int .u64 l], .agg #[.int .u64 h', .int .u64 l']] w fun e w' => e = .returned (.bool (decide (V h l < V h' l'))) ∧ Below w.heap.size w w' := by
  have e1 : V h l = h * 18446744073709551616 + l := rfl
  have e2 : V h' l' = h' * 18446744073709551616 + l' := rfl
  rcases Int.lt_trichotomy h h' with h1 | h1 | h1
  · have e : decide (V h l < V h' l') = true := decide_eq_true (by omega)
    rw [e]
    clear e e1 e2
    go_enter Try.func66, Try.ntmps66
    go_wp2
    go_ret
    exact ⟨rfl, (by (repeat' (first | exact Below.refl _ _ | refine Below.drew ?_ | refine Below.setCell ?_ (by first | omega | (simp <;> omega)) _ | refine Below.alloc ?_ (by first | omega | (simp <;> omega)) _)))⟩
  · subst h1
    have e : decide (V h l < V h l') = decide (l < l') := by rw [decide_eq_decide]; omega
    rw [e]
    clear e e1 e2
    go_enter Try.func66, Try.ntmps66
    go_wp2
    go_ret
    exact ⟨rfl, (by (repeat' (first | exact Below.refl _ _ | refine Below.drew ?_ | refine Below.setCell ?_ (by first | omega | (simp <;> omega)) _ | refine Below.alloc ?_ (by first | omega | (simp <;> omega)) _)))⟩
  · have e : decide (V h l < V h' l') = false := decide_eq_false (by omega)
    have h2 : ¬ h < h' := by omega
    have h3 : ¬ h = h' := by omega
    have h4 : (h == h') = false := by simp; exact h3
    rw [e]
    clear e e1 e2
    go_enter Try.func66, Try.ntmps66
    go_wp2
    go_ret
    exact ⟨rfl, (by (repeat' (first | exact Below.refl _ _ | refine Below.drew ?_ | refine Below.setCell ?_ (by first | omega | (simp <;> omega)) _ | refine Below.alloc ?_ (by first | omega | (simp <;> omega)) _)))⟩
theorem szsub_any (h l h' l' : Int) (w : World) (h0 : 0 ≤ h) (h1 : h ≤ 18446744073709551615) (l0 : 0 ≤ l) (l1 : l ≤ 18446744073709551615) (h0' : 0 ≤ h') (h1' : h' ≤ 18446744073709551615) (l0' : 0 ≤ l') (l1' : l' ≤ 18446744073709551615) :
    Calls Try.prog 65 #[.agg #[.int .u64 h, .int .u64 l], .agg #[.int .u64 h', .int .u64 l']] w fun e w' => e = .returned (.agg #[.int .u64 ((V h l - V h' l') % 340282366920938463463374607431768211456 / 18446744073709551616), .int .u64 ((V h l - V h' l') % 340282366920938463463374607431768211456 % 18446744073709551616)]) ∧ Below w.heap.size w w' := by
  obtain ⟨HI, hH⟩ : ∃ y, (V h l - V h' l') % 340282366920938463463374607431768211456 / 18446744073709551616 = y := ⟨_, rfl⟩
  obtain ⟨LO, hLO⟩ : ∃ y, (V h l - V h' l') % 340282366920938463463374607431768211456 % 18446744073709551616 = y := ⟨_, rfl⟩
  rw [hH, hLO]
  unfold V at hH hLO
  have e1 : (l - l') % 18446744073709551616 = LO := by omega
  obtain ⟨B, hB⟩ : ∃ y, -((l - l') / 18446744073709551616) = y := ⟨_, rfl⟩
  have e2 : (h - h' - B) % 18446744073709551616 = HI := by omega
  have e3 : 0 ≤ B := by omega
  have e4 : B ≤ 1 := by omega
  clear hH hLO
  go_enter Try.func65, Try.ntmps65
  go_wp2
  exact bodyPost_ret (v := .agg #[.int .u64 HI, .int .u64 LO]) (by rw [results_c1 rfl]; go_simp <;> omega) rfl ⟨rfl, (by (repeat' (first | exact Below.refl _ _ | refine Below.drew ?_ | refine Below.setCell ?_ (by first | omega | (simp <;> omega)) _ | refine Below.alloc ?_ (by first | omega | (simp <;> omega)) _)))⟩
theorem next_any (h l : Int) (w : World) (h0 : 0 ≤ h) (h1 : h ≤ 18446744073709551615) (l0 : 0 ≤ l) (l1 : l ≤ 18446744073709551615) :
    Calls Try.prog 90 #[.agg #[.int .u64 h, .int .u64 l]] w fun e w' => e = .returned (.agg #[.int .u64 ((V h l + 1) % 340282366920938463463374607431768211456 / 18446744073709551616), .int .u64 ((V h l + 1) % 340282366920938463463374607431768211456 % 18446744073709551616)]) ∧ Below w.heap.size w w' := by
  obtain ⟨HI, hH⟩ : ∃ y, (V h l + 1) % 340282366920938463463374607431768211456 / 18446744073709551616 = y := ⟨_, rfl⟩
  obtain ⟨LO, hLO⟩ : ∃ y, (V h l + 1) % 340282366920938463463374607431768211456 % 18446744073709551616 = y := ⟨_, rfl⟩
  rw [hH, hLO]
  unfold V at hH hLO
  have e1 : (l + 1) % 18446744073709551616 = LO := by omega
  have e2 : IntKind.u64.wrap (h + (l + 1) / 18446744073709551616) = HI := by rw [wrapU]; omega
  clear hH hLO
  go_enter Try.func90, Try.ntmps90
  go_wp2
  exact bodyPost_ret (v := .agg #[.int .u64 HI, .int .u64 LO]) (by rw [results_c1 rfl]; go_simp <;> omega) rfl ⟨rfl, (by (repeat' (first | exact Below.refl _ _ | refine Below.drew ?_ | refine Below.setCell ?_ (by first | omega | (simp <;> omega)) _ | refine Below.alloc ?_ (by first | omega | (simp <;> omega)) _)))⟩
/-- A variable of two cells. -/
structure Box2 (w : World) (b : Nat) (v0 v1 : Value) : Prop where
  c0 : w.cell? ⟨b, 0, none⟩ = some v0
  c1 : w.cell? ⟨b, 1, none⟩ = some v1
  f0 : w.frozen? ⟨b, 0, none⟩ = false
  f1 : w.frozen? ⟨b, 1, none⟩ = false
theorem Box2.below {w w' : World} {b n : Nat} {v0 v1 : Value} (h : Box2 w b v0 v1) (hb : Below n w w') (hn : b < n) : Box2 w' b v0 v1 :=
  ⟨(hb.cell (p := ⟨b, 0, none⟩) hn).trans h.c0, (hb.cell (p := ⟨b, 1, none⟩) hn).trans h.c1, (hb.frozen (p := ⟨b, 0, none⟩) hn).trans h.f0, (hb.frozen (p := ⟨b, 1, none⟩) hn).trans h.f1⟩
def upR (q r d : Int) : Bool := decide (d - r < r) || (decide (d - r = r) && decide (q % 2 = 1))
def absI (x : Int) : Int := if x < 0 then -x else x
theorem bitLenAux_bounds : ∀ (f x : Nat), x < 2 ^ f → x < 2 ^ Lib.bitLenAux f x ∧ (x ≠ 0 → 1 ≤ Lib.bitLenAux f x ∧ 2 ^ (Lib.bitLenAux f x - 1) ≤ x)
  | 0, x, h => by
    have : x = 0 := by simpa using h
    subst this
    exact ⟨by simp [Lib.bitLenAux], fun h => absurd rfl h⟩
  | f + 1, x, h => by
    simp only [Lib.bitLenAux]
    split
    · rename_i h0
      subst h0
      exact ⟨by simp, fun h => absurd rfl h⟩
    · rename_i h0
      obtain ⟨i1, i2⟩ := bitLenAux_bounds f (x / 2) (by rw [Nat.pow_succ] at h; omega)
      refine ⟨by rw [Nat.add_comm, Nat.pow_succ]; omega, fun _ => ⟨by omega, ?_⟩⟩
      by_cases h1 : x / 2 = 0
      · have : x = 1 := by omega
        subst this
        have : Lib.bitLenAux f (1 / 2) = 0 := by cases f <;> simp [Lib.bitLenAux]
        rw [this]
        decide
      · obtain ⟨j1, j2⟩ := i2 h1
        have e : 1 + Lib.bitLenAux f (x / 2) - 1 = (Lib.bitLenAux f (x / 2) - 1) + 1 := by omega
        rw [e, Nat.pow_succ]
        omega
theorem bitLen_bounds (x : Nat) (h : x < 18446744073709551616) : x < 2 ^ Lib.bitLen x ∧ (x ≠ 0 → 1 ≤ Lib.bitLen x ∧ 2 ^ (Lib.bitLen x - 1) ≤ x) := bitLenAux_bounds 64 x h
theorem bitLen_64 (x : Int) (h0 : 0 ≤ x) (h1 : x ≤ 18446744073709551615) : Lib.bitLen x.toNat ≤ 64 := Lib.bitLen_le x.toNat 64 (by omega) (by omega)
theorem tab_at (i : Int) (h0 : 0 ≤ i) (h1 : i ≤ 255) (h : i.toNat < Lib.len8tab.size) : ((Lib.len8tab[i.toNat]'h).toNat : Int) = (Lib.bitLen i.toNat : Int) := by
  rw [← Lib.len8_of i h0 h1]
  simp only [Lib.len8, ByteArray.getElem?_lt' _ _ h, Option.getD_some]
set_option maxHeartbeats 4000000 in
set_option maxRecDepth 100000 in
theorem len64_any (x : Int) (w : World) (h0 : 0 ≤ x) (h1 : x ≤ 18446744073709551615) :
    Calls Try.prog 102 #[.int .u64 x] w fun e w' => e = .returned (.int .i64 (Lib.bitLen x.toNat)) ∧ w' = w := by
  go_enter Try.func102, Try.ntmps102
  go_wp2
  all_goals first
    | (exfalso; rename_i hbad; rw [Lib.len8tab_size] at hbad; omega)
    | (go_ret; refine ⟨congrArg Ending.returned (congrArg (Value.int IntKind.i64) ?_), rfl⟩)
  · rw [tab_at (x / 4294967296 / 65536 / 256) (by omega) (by omega)]
    have e : (x / 4294967296 / 65536 / 256).toNat = x.toNat / 72057594037927936 := by omega
    have l := Lib.bitLen_le8' (x / 4294967296 / 65536 / 256) (by omega) (by omega)
    have s := Lib.bitLen_shift56 x.toNat (by omega) (by omega)
    rw [e] at l ⊢
    rw [s]
    generalize Lib.bitLen (x.toNat / 72057594037927936) = B at l ⊢
    clear e s
    unfold RowKit.wrap64
    omega
  · rw [tab_at (x / 4294967296 / 65536) (by omega) (by omega)]
    have e : (x / 4294967296 / 65536).toNat = x.toNat / 281474976710656 := by omega
    have l := Lib.bitLen_le8' (x / 4294967296 / 65536) (by omega) (by omega)
    have s := Lib.bitLen_shift48 x.toNat (by omega) (by omega)
    rw [e] at l ⊢
    rw [s]
    generalize Lib.bitLen (x.toNat / 281474976710656) = B at l ⊢
    clear e s
    unfold RowKit.wrap64
    omega
  · rw [tab_at (x / 4294967296 / 256) (by omega) (by omega)]
    have e : (x / 4294967296 / 256).toNat = x.toNat / 1099511627776 := by omega
    have l := Lib.bitLen_le8' (x / 4294967296 / 256) (by omega) (by omega)
    have s := Lib.bitLen_shift40 x.toNat (by omega) (by omega)
    rw [e] at l ⊢
    rw [s]
    generalize Lib.bitLen (x.toNat / 1099511627776) = B at l ⊢
    clear e s
    unfold RowKit.wrap64
    omega
  · rw [tab_at (x / 4294967296) (by omega) (by omega)]
    have e : (x / 4294967296).toNat = x.toNat / 4294967296 := by omega
    have l := Lib.bitLen_le8' (x / 4294967296) (by omega) (by omega)
    have s := Lib.bitLen_shift32 x.toNat (by omega) (by omega)
    rw [e] at l ⊢
    rw [s]
    generalize Lib.bitLen (x.toNat / 4294967296) = B at l ⊢
    clear e s
    unfold RowKit.wrap64
    omega
  · rw [tab_at (x / 65536 / 256) (by omega) (by omega)]
    have e : (x / 65536 / 256).toNat = x.toNat / 16777216 := by omega
    have l := Lib.bitLen_le8' (x / 65536 / 256) (by omega) (by omega)
    have s := Lib.bitLen_shift24 x.toNat (by omega) (by omega)
    rw [e] at l ⊢
    rw [s]
    generalize Lib.bitLen (x.toNat / 16777216) = B at l ⊢
    clear e s
    unfold RowKit.wrap64
    omega
  · rw [tab_at (x / 65536) (by omega) (by omega)]
    have e : (x / 65536).toNat = x.toNat / 65536 := by omega
    have l := Lib.bitLen_le8' (x / 65536) (by omega) (by omega)
    have s := Lib.bitLen_shift16 x.toNat (by omega) (by omega)
    rw [e] at l ⊢
    rw [s]
    generalize Lib.bitLen (x.toNat / 65536) = B at l ⊢
    clear e s
    unfold RowKit.wrap64
    omega
  · rw [tab_at (x / 256) (by omega) (by omega)]
    have e : (x / 256).toNat = x.toNat / 256 := by omega
    have l := Lib.bitLen_le8' (x / 256) (by omega) (by omega)
    have s := Lib.bitLen_shift8 x.toNat (by omega) (by omega)
    rw [e] at l ⊢
    rw [s]
    generalize Lib.bitLen (x.toNat / 256) = B at l ⊢
    clear e s
    unfold RowKit.wrap64
    omega
  · rw [tab_at (x) (by omega) (by omega)]
    have e : (x).toNat = x.toNat := by omega
    have l := Lib.bitLen_le8' (x) (by omega) (by omega)
    rw [e] at l ⊢
    generalize Lib.bitLen x.toNat = B at l ⊢
    clear e
    unfold RowKit.wrap64
    omega
theorem castPow (k : Nat) : ((2 ^ k : Nat) : Int) = (2 : Int) ^ k := by simp
theorem V_neg (h l : Int) (a : WR h l) : decide (V h l < 0) = decide (h < 0) := by
  obtain ⟨_, _, _, _⟩ := a
  by_cases hn : h < 0
  · rw [decide_eq_true hn]; exact decide_eq_true (by unfold V; omega)
  · rw [decide_eq_false hn]; exact decide_eq_false (by unfold V; omega)
end Go.Proofs.Ytmjcpgfekpedkaa
namespace Go.Proofs.Ytmjcpgfekpedkaa
open Go.RowKit Go.Rt
/-- The quotient, to the nearest, of two to the even one. -/
def roundI (n d : Int) : Int :=
  if (decide (n < 0) != decide (d < 0)) = true then -(if upR (absI n / absI d) (absI n % absI d) (absI d) = true then absI n / absI d + 1 else absI n / absI d)
  else (if upR (absI n / absI d) (absI n % absI d) (absI d) = true then absI n / absI d + 1 else absI n / absI d)
/-- Is it a word? -/
def isW (v : Int) : Bool := decide (-140737488355328 < v) && decide (v < 140737488355328)
theorem isW_iff {v : Int} : isW v = true ↔ -140737488355328 < v ∧ v < 140737488355328 := by simp [isW]
theorem fxGood_any (v : Int) (w : World) : Calls Try.prog 80 #[.int .i64 v] w fun e w' => e = .returned (.bool (isW v)) ∧ w = w' := by
  by_cases h1 : -140737488355328 < v
  · by_cases h2 : v < 140737488355328
    · have e1 : isW v = true := by unfold isW; rw [decide_eq_true h1, decide_eq_true h2]; rfl
      rw [e1]
      go_enter Try.func80, Try.ntmps80
      go_wp2
      go_ret
      exact ⟨rfl, rfl⟩
    · have e1 : isW v = false := by unfold isW; rw [decide_eq_true h1, decide_eq_false h2]; rfl
      rw [e1]
      go_enter Try.func80, Try.ntmps80
      go_wp2
      go_ret
      exact ⟨rfl, rfl⟩
  · have e1 : isW v = false := by unfold isW; rw [decide_eq_false h1]; rfl
    rw [e1]
    go_enter Try.func80, Try.ntmps80
    go_wp2
    go_ret
    exact ⟨rfl, rfl⟩
/-- What a number is as a word: the word, the error. -/
def wordV (x : Int) : Int := if isW x = true then x else 0
def wordE (x : Int) : Int := if isW x = true then 0 else 3
def RetV (v z : Int) (e : Ending) : Prop := e = .returned (.tuple #[.int .i64 v, .int .i64 z])
theorem word_any (v : Int) (w : World) : Calls Try.prog 68 #[.int .i64 v] w fun e w' => RetV (wordV v) (wordE v) e ∧ w = w' := by
  have hg := fun w => Lib.hid (fxGood_any v w)
  unfold wordV wordE
  cases h : isW v
  all_goals
    rw [h] at hg
    simp only [if_true, Bool.false_eq_true, if_false]
    go_enter Try.func68, Try.ntmps68
    go_wp2_with (first | (go_at_call 80; refine (hg _).out.mono ?_; rintro e w' ⟨rfl, rfl⟩))
    exact bodyPost_ret (by rw [results_tmp2 rfl]; go_simp) rfl ⟨rfl, rfl⟩
theorem narrow_any (h l : Int) (w : World) (a : WR h l) : Calls Try.prog 38 #[.agg #[.int .i64 h, .int .u64 l]] w fun e w' => RetV (wordV (V h l)) (wordE (V h l)) e ∧ Below w.heap.size w w' := by
  have hs := fun w => Lib.hid (small_any h l w a)
  by_cases hr : -9223372036854775808 ≤ V h l ∧ V h l ≤ 9223372036854775807
  · rw [if_pos hr, decide_eq_true hr] at hs
    have hw := fun w => Lib.hid (word_any (V h l) w)
    generalize V h l = X at hs hw ⊢
    generalize wordV X = XV at hw ⊢
    generalize wordE X = XE at hw ⊢
    clear hr
    go_enter Try.func38, Try.ntmps38
    go_wp2_with (first | (go_at_call 67; refine (hs _).out.mono ?_; rintro e w1 ⟨rfl, hb⟩; have HB1 := Lib.hid hb; clear hb) | (go_at_call 68; refine (hw _).out.mono ?_; rintro e w' ⟨he, rfl⟩; unfold RetV at he; subst he))
    exact bodyPost_ret (by rw [results_tmp2 rfl]; go_simp) rfl ⟨rfl, Below.trans (by (repeat' (first | exact Below.refl _ _ | refine Below.drew ?_ | refine Below.setCell ?_ (by first | omega | (simp <;> omega)) _ | refine Below.alloc ?_ (by first | omega | (simp <;> omega)) _))) (HB1.out.mono (by first | omega | (simp <;> omega)))⟩
  · rw [if_neg hr, decide_eq_false hr] at hs
    have e1 : isW (V h l) = false := by
      cases hb : isW (V h l) with
      | false => rfl
      | true => have := isW_iff.1 hb; omega
    have e2 : wordV (V h l) = 0 := by unfold wordV; rw [e1]; rfl
    have e3 : wordE (V h l) = 3 := by unfold wordE; rw [e1]; rfl
    rw [e2, e3]
    clear e1 e2 e3 hr
    go_enter Try.func38, Try.ntmps38
    go_wp2_with (first | (go_at_call 67; refine (hs _).out.mono ?_; rintro e w1 ⟨rfl, hb⟩; have HB1 := Lib.hid hb; clear hb))
    exact bodyPost_ret (by rw [results_tmp2 rfl]; go_simp) rfl ⟨rfl, Below.trans (by (repeat' (first | exact Below.refl _ _ | refine Below.drew ?_ | refine Below.setCell ?_ (by first | omega | (simp <;> omega)) _ | refine Below.alloc ?_ (by first | omega | (simp <;> omega)) _))) (HB1.out.mono (by first | omega | (simp <;> omega)))⟩
end Go.Proofs.Ytmjcpgfekpedkaa
namespace Go.Proofs.Ytmjcpgfekpedkaa
open Go.RowKit Go.Rt
attribute [local go_sem] run_add run_subI
theorem div0_any (lo y : Int) (w : World) (l0 : 0 ≤ lo) (l1 : lo ≤ 18446744073709551615) (y0 : 1 ≤ y) (y1 : y ≤ 18446744073709551615) :
    Calls Try.prog 97 #[.int .u64 0, .int .u64 lo, .int .u64 y] w fun e w' => e = .returned (.tuple #[.int .u64 (lo / y), .int .u64 (lo % y)]) ∧ Below w.heap.size w w' := by
  have hy0 : (y == 0) = false := by simp; omega
  have hy1 : ¬ y ≤ 0 := by omega
  have hy2 : ¬ y = 0 := by omega
  go_enter Try.func97, Try.ntmps97
  go_wp2
  go_region
  go_wp2
  (try simp only [Exit.inBlock, Exit.then])
  exact bodyPost_ret (by rw [results_tmp2 rfl]; go_simp) rfl ⟨rfl, Below.drew (Below.refl _ _)⟩
end Go.Proofs.Ytmjcpgfekpedkaa
namespace Go.Proofs.Ytmjcpgfekpedkaa
open Go.RowKit Go.Rt
set_option maxHeartbeats 4000000 in
set_option maxRecDepth 100000 in
/-- What over needs of its parts. -/
theorem over_round (h l h' l' q r : Int) (u : Bool) (H L Z : Int) (w : World) (a : WR h l) (b : WR h' l') (hz : ¬ (h' = 0 ∧ l' = 0)) (hq0 : 0 ≤ q) (hq1 : q ≤ 340282366920938463463374607431768211455)
    (hdiv : ∀ w, Calls Try.prog 89 #[.agg #[.int .u64 (A h l / 18446744073709551616), .int .u64 (A h l % 18446744073709551616)], .agg #[.int .u64 (A h' l' / 18446744073709551616), .int .u64 (A h' l' % 18446744073709551616)]] w fun e w' => e = .returned (.tuple #[.agg #[.int .u64 (q / 18446744073709551616), .int .u64 (q % 18446744073709551616)], .agg #[.int .u64 (r / 18446744073709551616), .int .u64 (r % 18446744073709551616)]]) ∧ Below w.heap.size w w')
    (hup : ∀ w, Calls Try.prog 64 #[.bool (decide (h < 0) != decide (h' < 0)), .agg #[.int .u64 (q / 18446744073709551616), .int .u64 (q % 18446744073709551616)], .agg #[.int .u64 (r / 18446744073709551616), .int .u64 (r % 18446744073709551616)], .agg #[.int .u64 (A h' l' / 18446744073709551616), .int .u64 (A h' l' % 18446744073709551616)]] w fun e w' => e = .returned (.bool u) ∧ Below w.heap.size w w')
    (htold : ∀ w, Calls Try.prog 91 #[.bool (decide (h < 0) != decide (h' < 0)), .agg #[.int .u64 (((if u = true then q + 1 else q) % 340282366920938463463374607431768211456) / 18446744073709551616), .int .u64 (((if u = true then q + 1 else q) % 340282366920938463463374607431768211456) % 18446744073709551616)]] w (RetWE w H L Z)) :
    Calls Try.prog 63 #[.agg #[.int .i64 h, .int .u64 l], .agg #[.int .i64 h', .int .u64 l'], .func (.func 64) #[] #[]] w (RetWE w H L Z) := by
  have ho1 := fun w => Lib.hid (of_any h l w a)
  have ho2 := fun w => Lib.hid (of_any h' l' w b)
  obtain ⟨NG, hNG⟩ : ∃ y, (decide (h < 0) != decide (h' < 0)) = y := ⟨_, rfl⟩
  obtain ⟨n1, hn1⟩ : ∃ y, decide (h < 0) = y := ⟨_, rfl⟩
  obtain ⟨n2, hn2⟩ : ∃ y, decide (h' < 0) = y := ⟨_, rfl⟩
  rw [hNG] at hup htold
  rw [hn1] at hNG ho1
  rw [hn2] at hNG ho2
  have hNG2 : (!(n1 == n2)) = NG := hNG
  have hnx := fun w => Lib.hid (next_any (q / 18446744073709551616) (q % 18446744073709551616) w (by omega) (by omega) (by omega) (by omega))
  have eV : V (q / 18446744073709551616) (q % 18446744073709551616) = q := by unfold V; omega
  rw [eV] at hnx
  have HDIV := fun w => Lib.hid (hdiv w)
  have HUP := fun w => Lib.hid (hup w)
  have HTOLD := fun w => Lib.hid (htold w)
  clear hdiv hup htold hn1 hn2 eV a b
  obtain ⟨A1, hA1⟩ : ∃ y, A h l / 18446744073709551616 = y := ⟨_, rfl⟩
  obtain ⟨A2, hA2⟩ : ∃ y, A h l % 18446744073709551616 = y := ⟨_, rfl⟩
  obtain ⟨B1, hB1⟩ : ∃ y, A h' l' / 18446744073709551616 = y := ⟨_, rfl⟩
  obtain ⟨B2, hB2⟩ : ∃ y, A h' l' % 18446744073709551616 = y := ⟨_, rfl⟩
  obtain ⟨R1, hR1⟩ : ∃ y, r / 18446744073709551616 = y := ⟨_, rfl⟩
  obtain ⟨R2, hR2⟩ : ∃ y, r % 18446744073709551616 = y := ⟨_, rfl⟩
  obtain ⟨Q1, hQ1⟩ : ∃ y, q / 18446744073709551616 = y := ⟨_, rfl⟩
  obtain ⟨Q2, hQ2⟩ : ∃ y, q % 18446744073709551616 = y := ⟨_, rfl⟩
  obtain ⟨N1, hN1⟩ : ∃ y, (q + 1) % 340282366920938463463374607431768211456 / 18446744073709551616 = y := ⟨_, rfl⟩
  obtain ⟨N2, hN2⟩ : ∃ y, (q + 1) % 340282366920938463463374607431768211456 % 18446744073709551616 = y := ⟨_, rfl⟩
  have hqm : q % 340282366920938463463374607431768211456 = q := by omega
  rw [hA1, hA2] at ho1 HDIV
  rw [hB1, hB2] at ho2 HDIV HUP
  rw [hQ1, hQ2] at HDIV HUP hnx
  rw [hR1, hR2] at HDIV HUP
  rw [hN1, hN2] at hnx
  have B0 : ∀ W, W = (((w.alloc (.cells #[.int .i64 h, .int .u64 l] 77)).alloc (.cells #[.int .i64 h', .int .u64 l'] 77)).alloc (.cells #[.int .i64 0, .int .u64 0] 77)) → Box2 W (w.heap.size + 1) (.int .i64 h') (.int .u64 l') ∧ Box2 W (w.heap.size + 1 + 1) (.int .i64 0) (.int .u64 0) := by
    rintro W rfl
    exact ⟨by constructor <;> go_simp, by constructor <;> go_simp⟩
  have HB0 := Lib.hid B0
  clear B0
  cases u with
  | false =>
    simp only [Bool.false_eq_true, if_false] at HTOLD
    rw [hqm, hQ1, hQ2] at HTOLD
    clear hA1 hA2 hB1 hB2 hQ1 hQ2 hR1 hR2 hN1 hN2
    by_cases h0 : h' = 0
    · subst h0
      have hl0 : ¬ l' = 0 := fun e => hz ⟨rfl, e⟩
      have hl1 : (l' == 0) = false := by simp; exact hl0
      clear hz
      go_enter Try.func63, Try.ntmps63
      go_wp2_with (first
        | (go_at_call_has 88 (Value.int IntKind.i64 h); go_loud (refine (ho1 _).out.mono ?_; rintro e w1 ⟨rfl, hb⟩; have HB1 := Lib.hid hb; have hs1 := hb.size; (try simp at hs1); have X4 := (HB0.out _ rfl).1.below hb (by first | omega | (simp <;> omega)); have X6 := (HB0.out _ rfl).2.below hb (by first | omega | (simp <;> omega)); have HX6 := Lib.hid X6; obtain ⟨dc0, dc1, df0, df1⟩ := X4; have hl4 : w.heap.size + 1 < w1.heap.size := (by omega); clear hb X6)) | (go_at_call_has 88 (Value.int IntKind.i64 0); go_loud (refine (ho2 _).out.mono ?_; rintro e w2 ⟨rfl, hb⟩; have HB2 := Lib.hid hb; have hs2 := hb.size; (try simp at hs2); have X9 := Box2.below (b := w1.heap.size) (v0 := .int .u64 A1) (v1 := .int .u64 A2) (by constructor <;> go_simp) hb (by first | omega | (simp <;> omega)); have HX62 := Lib.hid ((HX6.out.below (n := w1.heap.size) (by (repeat' (first | exact Below.refl _ _ | refine Below.drew ?_ | refine Below.setCell ?_ (by first | omega | (simp <;> omega)) _ | refine Below.alloc ?_ (by first | omega | (simp <;> omega)) _))) (by first | omega | (simp <;> omega))).below hb (by first | omega | (simp <;> omega))); obtain ⟨ac0, ac1, af0, af1⟩ := X9; have hl9 : w1.heap.size < w2.heap.size := (by omega); clear hb)) | (go_at_call 89; go_loud (refine (HDIV _).out.mono ?_; rintro e w3 ⟨rfl, hb⟩; have HB3 := Lib.hid hb; have hs3 := hb.size; (try simp at hs3); have X11 := Box2.below (b := w2.heap.size) (v0 := .int .u64 B1) (v1 := .int .u64 B2) (by constructor <;> go_simp) hb (by first | omega | (simp <;> omega)); have HX63 := Lib.hid ((HX62.out.below (n := w2.heap.size) (by (repeat' (first | exact Below.refl _ _ | refine Below.drew ?_ | refine Below.setCell ?_ (by first | omega | (simp <;> omega)) _ | refine Below.alloc ?_ (by first | omega | (simp <;> omega)) _))) (by first | omega | (simp <;> omega))).below hb (by first | omega | (simp <;> omega))); obtain ⟨bc0, bc1, bf0, bf1⟩ := X11; have hl11 : w2.heap.size < w3.heap.size := (by omega); clear hb)) | (go_at_call 64; go_loud (refine (HUP _).out.mono ?_; rintro e w4 ⟨rfl, hb⟩; have HB4 := Lib.hid hb; have hs4 := hb.size; (try simp at hs4); have X12 := Box2.below (b := w3.heap.size) (v0 := .int .u64 Q1) (v1 := .int .u64 Q2) (by constructor <;> go_simp) hb (by first | omega | (simp <;> omega)); have HX12 := Lib.hid X12; have HX64 := Lib.hid ((HX63.out.below (n := w3.heap.size) (by (repeat' (first | exact Below.refl _ _ | refine Below.drew ?_ | refine Below.setCell ?_ (by first | omega | (simp <;> omega)) _ | refine Below.alloc ?_ (by first | omega | (simp <;> omega)) _))) (by first | omega | (simp <;> omega))).below hb (by first | omega | (simp <;> omega))); obtain ⟨ec0, ec1, ef0, ef1⟩ := X12; have hl12 : w3.heap.size < w4.heap.size := (by omega); clear hb)) | (go_at_call 90; go_loud (refine (hnx _).out.mono ?_; rintro e w5 ⟨rfl, hb⟩; have HB5 := Lib.hid hb; have hs5 := hb.size; (try simp at hs5); have X12 := HX12.out.below hb (by first | omega | (simp <;> omega)); have HX65 := Lib.hid (HX64.out.below hb (by first | omega | (simp <;> omega))); obtain ⟨kc0, kc1, kf0, kf1⟩ := X12; have hl13 : w3.heap.size < w5.heap.size := (by omega); clear hb)) | (go_at_call 91; go_loud (refine (HTOLD _).out.mono ?_; rintro e w6 ⟨rfl, hb⟩; have HB6 := Lib.hid hb; have hs6 := hb.size; (try simp at hs6); have X66 := (HX64.out.below hb (by first | omega | (simp <;> omega))); obtain ⟨mc0, mc1, mf0, mf1⟩ := X66; clear hb)))
      (try simp only [Exit.inBlock, Exit.then])
      refine bodyPost_ret (v := .tuple #[.agg #[.int .i64 H, .int .u64 L], .int .i64 Z]) (by rw [results_ct rfl]; go_simp) rfl ⟨rfl, ?_⟩
      iterate 2 refine Below.setCell ?_ (by first | omega | (simp <;> omega)) _
      exact Below.trans (by (repeat' (first | exact Below.refl _ _ | refine Below.drew ?_ | refine Below.setCell ?_ (by first | omega | (simp <;> omega)) _ | refine Below.alloc ?_ (by first | omega | (simp <;> omega)) _))) (Below.trans (HB1.out.mono (by first | omega | (simp <;> omega))) (Below.trans (by (repeat' (first | exact Below.refl _ _ | refine Below.drew ?_ | refine Below.setCell ?_ (by first | omega | (simp <;> omega)) _ | refine Below.alloc ?_ (by first | omega | (simp <;> omega)) _))) (Below.trans (HB2.out.mono (by first | omega | (simp <;> omega))) (Below.trans (by (repeat' (first | exact Below.refl _ _ | refine Below.drew ?_ | refine Below.setCell ?_ (by first | omega | (simp <;> omega)) _ | refine Below.alloc ?_ (by first | omega | (simp <;> omega)) _))) (Below.trans (HB3.out.mono (by first | omega | (simp <;> omega))) (Below.trans (by (repeat' (first | exact Below.refl _ _ | refine Below.drew ?_ | refine Below.setCell ?_ (by first | omega | (simp <;> omega)) _ | refine Below.alloc ?_ (by first | omega | (simp <;> omega)) _))) (Below.trans (HB4.out.mono (by first | omega | (simp <;> omega))) (HB6.out.mono (by first | omega | (simp <;> omega))))))))))
    · have h01 : (h' == 0) = false := by simp; exact h0
      clear hz
      go_enter Try.func63, Try.ntmps63
      go_wp2_with (first
        | (go_at_call_has 88 (Value.int IntKind.i64 h); go_loud (refine (ho1 _).out.mono ?_; rintro e w1 ⟨rfl, hb⟩; have HB1 := Lib.hid hb; have hs1 := hb.size; (try simp at hs1); have X4 := (HB0.out _ rfl).1.below hb (by first | omega | (simp <;> omega)); have X6 := (HB0.out _ rfl).2.below hb (by first | omega | (simp <;> omega)); have HX6 := Lib.hid X6; obtain ⟨dc0, dc1, df0, df1⟩ := X4; have hl4 : w.heap.size + 1 < w1.heap.size := (by omega); clear hb X6)) | (go_at_call_has 88 (Value.int IntKind.i64 h'); go_loud (refine (ho2 _).out.mono ?_; rintro e w2 ⟨rfl, hb⟩; have HB2 := Lib.hid hb; have hs2 := hb.size; (try simp at hs2); have X9 := Box2.below (b := w1.heap.size) (v0 := .int .u64 A1) (v1 := .int .u64 A2) (by constructor <;> go_simp) hb (by first | omega | (simp <;> omega)); have HX62 := Lib.hid ((HX6.out.below (n := w1.heap.size) (by (repeat' (first | exact Below.refl _ _ | refine Below.drew ?_ | refine Below.setCell ?_ (by first | omega | (simp <;> omega)) _ | refine Below.alloc ?_ (by first | omega | (simp <;> omega)) _))) (by first | omega | (simp <;> omega))).below hb (by first | omega | (simp <;> omega))); obtain ⟨ac0, ac1, af0, af1⟩ := X9; have hl9 : w1.heap.size < w2.heap.size := (by omega); clear hb)) | (go_at_call 89; go_loud (refine (HDIV _).out.mono ?_; rintro e w3 ⟨rfl, hb⟩; have HB3 := Lib.hid hb; have hs3 := hb.size; (try simp at hs3); have X11 := Box2.below (b := w2.heap.size) (v0 := .int .u64 B1) (v1 := .int .u64 B2) (by constructor <;> go_simp) hb (by first | omega | (simp <;> omega)); have HX63 := Lib.hid ((HX62.out.below (n := w2.heap.size) (by (repeat' (first | exact Below.refl _ _ | refine Below.drew ?_ | refine Below.setCell ?_ (by first | omega | (simp <;> omega)) _ | refine Below.alloc ?_ (by first | omega | (simp <;> omega)) _))) (by first | omega | (simp <;> omega))).below hb (by first | omega | (simp <;> omega))); obtain ⟨bc0, bc1, bf0, bf1⟩ := X11; have hl11 : w2.heap.size < w3.heap.size := (by omega); clear hb)) | (go_at_call 64; go_loud (refine (HUP _).out.mono ?_; rintro e w4 ⟨rfl, hb⟩; have HB4 := Lib.hid hb; have hs4 := hb.size; (try simp at hs4); have X12 := Box2.below (b := w3.heap.size) (v0 := .int .u64 Q1) (v1 := .int .u64 Q2) (by constructor <;> go_simp) hb (by first | omega | (simp <;> omega)); have HX12 := Lib.hid X12; have HX64 := Lib.hid ((HX63.out.below (n := w3.heap.size) (by (repeat' (first | exact Below.refl _ _ | refine Below.drew ?_ | refine Below.setCell ?_ (by first | omega | (simp <;> omega)) _ | refine Below.alloc ?_ (by first | omega | (simp <;> omega)) _))) (by first | omega | (simp <;> omega))).below hb (by first | omega | (simp <;> omega))); obtain ⟨ec0, ec1, ef0, ef1⟩ := X12; have hl12 : w3.heap.size < w4.heap.size := (by omega); clear hb)) | (go_at_call 90; go_loud (refine (hnx _).out.mono ?_; rintro e w5 ⟨rfl, hb⟩; have HB5 := Lib.hid hb; have hs5 := hb.size; (try simp at hs5); have X12 := HX12.out.below hb (by first | omega | (simp <;> omega)); have HX65 := Lib.hid (HX64.out.below hb (by first | omega | (simp <;> omega))); obtain ⟨kc0, kc1, kf0, kf1⟩ := X12; have hl13 : w3.heap.size < w5.heap.size := (by omega); clear hb)) | (go_at_call 91; go_loud (refine (HTOLD _).out.mono ?_; rintro e w6 ⟨rfl, hb⟩; have HB6 := Lib.hid hb; have hs6 := hb.size; (try simp at hs6); have X66 := (HX64.out.below hb (by first | omega | (simp <;> omega))); obtain ⟨mc0, mc1, mf0, mf1⟩ := X66; clear hb)))
      (try simp only [Exit.inBlock, Exit.then])
      refine bodyPost_ret (v := .tuple #[.agg #[.int .i64 H, .int .u64 L], .int .i64 Z]) (by rw [results_ct rfl]; go_simp) rfl ⟨rfl, ?_⟩
      iterate 2 refine Below.setCell ?_ (by first | omega | (simp <;> omega)) _
      exact Below.trans (by (repeat' (first | exact Below.refl _ _ | refine Below.drew ?_ | refine Below.setCell ?_ (by first | omega | (simp <;> omega)) _ | refine Below.alloc ?_ (by first | omega | (simp <;> omega)) _))) (Below.trans (HB1.out.mono (by first | omega | (simp <;> omega))) (Below.trans (by (repeat' (first | exact Below.refl _ _ | refine Below.drew ?_ | refine Below.setCell ?_ (by first | omega | (simp <;> omega)) _ | refine Below.alloc ?_ (by first | omega | (simp <;> omega)) _))) (Below.trans (HB2.out.mono (by first | omega | (simp <;> omega))) (Below.trans (by (repeat' (first | exact Below.refl _ _ | refine Below.drew ?_ | refine Below.setCell ?_ (by first | omega | (simp <;> omega)) _ | refine Below.alloc ?_ (by first | omega | (simp <;> omega)) _))) (Below.trans (HB3.out.mono (by first | omega | (simp <;> omega))) (Below.trans (by (repeat' (first | exact Below.refl _ _ | refine Below.drew ?_ | refine Below.setCell ?_ (by first | omega | (simp <;> omega)) _ | refine Below.alloc ?_ (by first | omega | (simp <;> omega)) _))) (Below.trans (HB4.out.mono (by first | omega | (simp <;> omega))) (HB6.out.mono (by first | omega | (simp <;> omega))))))))))
  | true =>
    simp only [if_true] at HTOLD
    rw [hN1, hN2] at HTOLD
    clear hA1 hA2 hB1 hB2 hQ1 hQ2 hR1 hR2 hN1 hN2
    by_cases h0 : h' = 0
    · subst h0
      have hl0 : ¬ l' = 0 := fun e => hz ⟨rfl, e⟩
      have hl1 : (l' == 0) = false := by simp; exact hl0
      clear hz
      go_enter Try.func63, Try.ntmps63
      go_wp2_with (first
        | (go_at_call_has 88 (Value.int IntKind.i64 h); go_loud (refine (ho1 _).out.mono ?_; rintro e w1 ⟨rfl, hb⟩; have HB1 := Lib.hid hb; have hs1 := hb.size; (try simp at hs1); have X4 := (HB0.out _ rfl).1.below hb (by first | omega | (simp <;> omega)); have X6 := (HB0.out _ rfl).2.below hb (by first | omega | (simp <;> omega)); have HX6 := Lib.hid X6; obtain ⟨dc0, dc1, df0, df1⟩ := X4; have hl4 : w.heap.size + 1 < w1.heap.size := (by omega); clear hb X6)) | (go_at_call_has 88 (Value.int IntKind.i64 0); go_loud (refine (ho2 _).out.mono ?_; rintro e w2 ⟨rfl, hb⟩; have HB2 := Lib.hid hb; have hs2 := hb.size; (try simp at hs2); have X9 := Box2.below (b := w1.heap.size) (v0 := .int .u64 A1) (v1 := .int .u64 A2) (by constructor <;> go_simp) hb (by first | omega | (simp <;> omega)); have HX62 := Lib.hid ((HX6.out.below (n := w1.heap.size) (by (repeat' (first | exact Below.refl _ _ | refine Below.drew ?_ | refine Below.setCell ?_ (by first | omega | (simp <;> omega)) _ | refine Below.alloc ?_ (by first | omega | (simp <;> omega)) _))) (by first | omega | (simp <;> omega))).below hb (by first | omega | (simp <;> omega))); obtain ⟨ac0, ac1, af0, af1⟩ := X9; have hl9 : w1.heap.size < w2.heap.size := (by omega); clear hb)) | (go_at_call 89; go_loud (refine (HDIV _).out.mono ?_; rintro e w3 ⟨rfl, hb⟩; have HB3 := Lib.hid hb; have hs3 := hb.size; (try simp at hs3); have X11 := Box2.below (b := w2.heap.size) (v0 := .int .u64 B1) (v1 := .int .u64 B2) (by constructor <;> go_simp) hb (by first | omega | (simp <;> omega)); have HX63 := Lib.hid ((HX62.out.below (n := w2.heap.size) (by (repeat' (first | exact Below.refl _ _ | refine Below.drew ?_ | refine Below.setCell ?_ (by first | omega | (simp <;> omega)) _ | refine Below.alloc ?_ (by first | omega | (simp <;> omega)) _))) (by first | omega | (simp <;> omega))).below hb (by first | omega | (simp <;> omega))); obtain ⟨bc0, bc1, bf0, bf1⟩ := X11; have hl11 : w2.heap.size < w3.heap.size := (by omega); clear hb)) | (go_at_call 64; go_loud (refine (HUP _).out.mono ?_; rintro e w4 ⟨rfl, hb⟩; have HB4 := Lib.hid hb; have hs4 := hb.size; (try simp at hs4); have X12 := Box2.below (b := w3.heap.size) (v0 := .int .u64 Q1) (v1 := .int .u64 Q2) (by constructor <;> go_simp) hb (by first | omega | (simp <;> omega)); have HX12 := Lib.hid X12; have HX64 := Lib.hid ((HX63.out.below (n := w3.heap.size) (by (repeat' (first | exact Below.refl _ _ | refine Below.drew ?_ | refine Below.setCell ?_ (by first | omega | (simp <;> omega)) _ | refine Below.alloc ?_ (by first | omega | (simp <;> omega)) _))) (by first | omega | (simp <;> omega))).below hb (by first | omega | (simp <;> omega))); obtain ⟨ec0, ec1, ef0, ef1⟩ := X12; have hl12 : w3.heap.size < w4.heap.size := (by omega); clear hb)) | (go_at_call 90; go_loud (refine (hnx _).out.mono ?_; rintro e w5 ⟨rfl, hb⟩; have HB5 := Lib.hid hb; have hs5 := hb.size; (try simp at hs5); have X12 := HX12.out.below hb (by first | omega | (simp <;> omega)); have HX65 := Lib.hid (HX64.out.below hb (by first | omega | (simp <;> omega))); obtain ⟨kc0, kc1, kf0, kf1⟩ := X12; have hl13 : w3.heap.size < w5.heap.size := (by omega); clear hb)) | (go_at_call 91; go_loud (refine (HTOLD _).out.mono ?_; rintro e w6 ⟨rfl, hb⟩; have HB6 := Lib.hid hb; have hs6 := hb.size; (try simp at hs6); have X66 := ((HX65.out.below (n := w3.heap.size) (by (repeat' (first | exact Below.refl _ _ | refine Below.drew ?_ | refine Below.setCell ?_ (by first | omega | (simp <;> omega)) _ | refine Below.alloc ?_ (by first | omega | (simp <;> omega)) _))) (by first | omega | (simp <;> omega))).below hb (by first | omega | (simp <;> omega))); obtain ⟨mc0, mc1, mf0, mf1⟩ := X66; clear hb)))
      (try simp only [Exit.inBlock, Exit.then])
      refine bodyPost_ret (v := .tuple #[.agg #[.int .i64 H, .int .u64 L], .int .i64 Z]) (by rw [results_ct rfl]; go_simp) rfl ⟨rfl, ?_⟩
      iterate 2 refine Below.setCell ?_ (by first | omega | (simp <;> omega)) _
      exact Below.trans (by (repeat' (first | exact Below.refl _ _ | refine Below.drew ?_ | refine Below.setCell ?_ (by first | omega | (simp <;> omega)) _ | refine Below.alloc ?_ (by first | omega | (simp <;> omega)) _))) (Below.trans (HB1.out.mono (by first | omega | (simp <;> omega))) (Below.trans (by (repeat' (first | exact Below.refl _ _ | refine Below.drew ?_ | refine Below.setCell ?_ (by first | omega | (simp <;> omega)) _ | refine Below.alloc ?_ (by first | omega | (simp <;> omega)) _))) (Below.trans (HB2.out.mono (by first | omega | (simp <;> omega))) (Below.trans (by (repeat' (first | exact Below.refl _ _ | refine Below.drew ?_ | refine Below.setCell ?_ (by first | omega | (simp <;> omega)) _ | refine Below.alloc ?_ (by first | omega | (simp <;> omega)) _))) (Below.trans (HB3.out.mono (by first | omega | (simp <;> omega))) (Below.trans (by (repeat' (first | exact Below.refl _ _ | refine Below.drew ?_ | refine Below.setCell ?_ (by first | omega | (simp <;> omega)) _ | refine Below.alloc ?_ (by first | omega | (simp <;> omega)) _))) (Below.trans (HB4.out.mono (by first | omega | (simp <;> omega))) (Below.trans (HB5.out.mono (by first | omega | (simp <;> omega))) (Below.trans (by (repeat' (first | exact Below.refl _ _ | refine Below.drew ?_ | refine Below.setCell ?_ (by first | omega | (simp <;> omega)) _ | refine Below.alloc ?_ (by first | omega | (simp <;> omega)) _))) (HB6.out.mono (by first | omega | (simp <;> omega))))))))))))
    · have h01 : (h' == 0) = false := by simp; exact h0
      clear hz
      go_enter Try.func63, Try.ntmps63
      go_wp2_with (first
        | (go_at_call_has 88 (Value.int IntKind.i64 h); go_loud (refine (ho1 _).out.mono ?_; rintro e w1 ⟨rfl, hb⟩; have HB1 := Lib.hid hb; have hs1 := hb.size; (try simp at hs1); have X4 := (HB0.out _ rfl).1.below hb (by first | omega | (simp <;> omega)); have X6 := (HB0.out _ rfl).2.below hb (by first | omega | (simp <;> omega)); have HX6 := Lib.hid X6; obtain ⟨dc0, dc1, df0, df1⟩ := X4; have hl4 : w.heap.size + 1 < w1.heap.size := (by omega); clear hb X6)) | (go_at_call_has 88 (Value.int IntKind.i64 h'); go_loud (refine (ho2 _).out.mono ?_; rintro e w2 ⟨rfl, hb⟩; have HB2 := Lib.hid hb; have hs2 := hb.size; (try simp at hs2); have X9 := Box2.below (b := w1.heap.size) (v0 := .int .u64 A1) (v1 := .int .u64 A2) (by constructor <;> go_simp) hb (by first | omega | (simp <;> omega)); have HX62 := Lib.hid ((HX6.out.below (n := w1.heap.size) (by (repeat' (first | exact Below.refl _ _ | refine Below.drew ?_ | refine Below.setCell ?_ (by first | omega | (simp <;> omega)) _ | refine Below.alloc ?_ (by first | omega | (simp <;> omega)) _))) (by first | omega | (simp <;> omega))).below hb (by first | omega | (simp <;> omega))); obtain ⟨ac0, ac1, af0, af1⟩ := X9; have hl9 : w1.heap.size < w2.heap.size := (by omega); clear hb)) | (go_at_call 89; go_loud (refine (HDIV _).out.mono ?_; rintro e w3 ⟨rfl, hb⟩; have HB3 := Lib.hid hb; have hs3 := hb.size; (try simp at hs3); have X11 := Box2.below (b := w2.heap.size) (v0 := .int .u64 B1) (v1 := .int .u64 B2) (by constructor <;> go_simp) hb (by first | omega | (simp <;> omega)); have HX63 := Lib.hid ((HX62.out.below (n := w2.heap.size) (by (repeat' (first | exact Below.refl _ _ | refine Below.drew ?_ | refine Below.setCell ?_ (by first | omega | (simp <;> omega)) _ | refine Below.alloc ?_ (by first | omega | (simp <;> omega)) _))) (by first | omega | (simp <;> omega))).below hb (by first | omega | (simp <;> omega))); obtain ⟨bc0, bc1, bf0, bf1⟩ := X11; have hl11 : w2.heap.size < w3.heap.size := (by omega); clear hb)) | (go_at_call 64; go_loud (refine (HUP _).out.mono ?_; rintro e w4 ⟨rfl, hb⟩; have HB4 := Lib.hid hb; have hs4 := hb.size; (try simp at hs4); have X12 := Box2.below (b := w3.heap.size) (v0 := .int .u64 Q1) (v1 := .int .u64 Q2) (by constructor <;> go_simp) hb (by first | omega | (simp <;> omega)); have HX12 := Lib.hid X12; have HX64 := Lib.hid ((HX63.out.below (n := w3.heap.size) (by (repeat' (first | exact Below.refl _ _ | refine Below.drew ?_ | refine Below.setCell ?_ (by first | omega | (simp <;> omega)) _ | refine Below.alloc ?_ (by first | omega | (simp <;> omega)) _))) (by first | omega | (simp <;> omega))).below hb (by first | omega | (simp <;> omega))); obtain ⟨ec0, ec1, ef0, ef1⟩ := X12; have hl12 : w3.heap.size < w4.heap.size := (by omega); clear hb)) | (go_at_call 90; go_loud (refine (hnx _).out.mono ?_; rintro e w5 ⟨rfl, hb⟩; have HB5 := Lib.hid hb; have hs5 := hb.size; (try simp at hs5); have X12 := HX12.out.below hb (by first | omega | (simp <;> omega)); have HX65 := Lib.hid (HX64.out.below hb (by first | omega | (simp <;> omega))); obtain ⟨kc0, kc1, kf0, kf1⟩ := X12; have hl13 : w3.heap.size < w5.heap.size := (by omega); clear hb)) | (go_at_call 91; go_loud (refine (HTOLD _).out.mono ?_; rintro e w6 ⟨rfl, hb⟩; have HB6 := Lib.hid hb; have hs6 := hb.size; (try simp at hs6); have X66 := ((HX65.out.below (n := w3.heap.size) (by (repeat' (first | exact Below.refl _ _ | refine Below.drew ?_ | refine Below.setCell ?_ (by first | omega | (simp <;> omega)) _ | refine Below.alloc ?_ (by first | omega | (simp <;> omega)) _))) (by first | omega | (simp <;> omega))).below hb (by first | omega | (simp <;> omega))); obtain ⟨mc0, mc1, mf0, mf1⟩ := X66; clear hb)))
      (try simp only [Exit.inBlock, Exit.then])
      refine bodyPost_ret (v := .tuple #[.agg #[.int .i64 H, .int .u64 L], .int .i64 Z]) (by rw [results_ct rfl]; go_simp) rfl ⟨rfl, ?_⟩
      iterate 2 refine Below.setCell ?_ (by first | omega | (simp <;> omega)) _
      exact Below.trans (by (repeat' (first | exact Below.refl _ _ | refine Below.drew ?_ | refine Below.setCell ?_ (by first | omega | (simp <;> omega)) _ | refine Below.alloc ?_ (by first | omega | (simp <;> omega)) _))) (Below.trans (HB1.out.mono (by first | omega | (simp <;> omega))) (Below.trans (by (repeat' (first | exact Below.refl _ _ | refine Below.drew ?_ | refine Below.setCell ?_ (by first | omega | (simp <;> omega)) _ | refine Below.alloc ?_ (by first | omega | (simp <;> omega)) _))) (Below.trans (HB2.out.mono (by first | omega | (simp <;> omega))) (Below.trans (by (repeat' (first | exact Below.refl _ _ | refine Below.drew ?_ | refine Below.setCell ?_ (by first | omega | (simp <;> omega)) _ | refine Below.alloc ?_ (by first | omega | (simp <;> omega)) _))) (Below.trans (HB3.out.mono (by first | omega | (simp <;> omega))) (Below.trans (by (repeat' (first | exact Below.refl _ _ | refine Below.drew ?_ | refine Below.setCell ?_ (by first | omega | (simp <;> omega)) _ | refine Below.alloc ?_ (by first | omega | (simp <;> omega)) _))) (Below.trans (HB4.out.mono (by first | omega | (simp <;> omega))) (Below.trans (HB5.out.mono (by first | omega | (simp <;> omega))) (Below.trans (by (repeat' (first | exact Below.refl _ _ | refine Below.drew ?_ | refine Below.setCell ?_ (by first | omega | (simp <;> omega)) _ | refine Below.alloc ?_ (by first | omega | (simp <;> omega)) _))) (HB6.out.mono (by first | omega | (simp <;> omega))))))))))))
set_option maxHeartbeats 1000000 in
theorem upR_any (neg : Bool) (q r d : Int) (w : World) (q0 : 0 ≤ q) (q1 : q < 340282366920938463463374607431768211456) (r0 : 0 ≤ r) (rd : r ≤ d) (d1 : d < 340282366920938463463374607431768211456) :
    Calls Try.prog 64 #[.bool neg, .agg #[.int .u64 (q / 18446744073709551616), .int .u64 (q % 18446744073709551616)], .agg #[.int .u64 (r / 18446744073709551616), .int .u64 (r % 18446744073709551616)], .agg #[.int .u64 (d / 18446744073709551616), .int .u64 (d % 18446744073709551616)]] w fun e w' => e = .returned (.bool (upR q r d)) ∧ Below w.heap.size w w' := by
  have hsub := fun w => Lib.hid (szsub_any (d / 18446744073709551616) (d % 18446744073709551616) (r / 18446744073709551616) (r % 18446744073709551616) w (by omega) (by omega) (by omega) (by omega) (by omega) (by omega) (by omega) (by omega))
  have hless := fun w => Lib.hid (less_any ((d - r) / 18446744073709551616) ((d - r) % 18446744073709551616) (r / 18446744073709551616) (r % 18446744073709551616) w (by omega) (by omega) (by omega) (by omega))
  have v1 : V (d / 18446744073709551616) (d % 18446744073709551616) = d := by unfold V; omega
  have v2 : V (r / 18446744073709551616) (r % 18446744073709551616) = r := by unfold V; omega
  have v3 : V ((d - r) / 18446744073709551616) ((d - r) % 18446744073709551616) = d - r := by unfold V; omega
  have v4 : (d - r) % 340282366920938463463374607431768211456 = d - r := by omega
  rw [v1, v2, v4] at hsub
  rw [v2, v3] at hless
  obtain ⟨D1, hD1⟩ : ∃ y, d / 18446744073709551616 = y := ⟨_, rfl⟩
  obtain ⟨D2, hD2⟩ : ∃ y, d % 18446744073709551616 = y := ⟨_, rfl⟩
  obtain ⟨R1, hR1⟩ : ∃ y, r / 18446744073709551616 = y := ⟨_, rfl⟩
  obtain ⟨R2, hR2⟩ : ∃ y, r % 18446744073709551616 = y := ⟨_, rfl⟩
  obtain ⟨Q1, hQ1⟩ : ∃ y, q / 18446744073709551616 = y := ⟨_, rfl⟩
  obtain ⟨Q2, hQ2⟩ : ∃ y, q % 18446744073709551616 = y := ⟨_, rfl⟩
  obtain ⟨L1, hL1⟩ : ∃ y, (d - r) / 18446744073709551616 = y := ⟨_, rfl⟩
  obtain ⟨L2, hL2⟩ : ∃ y, (d - r) % 18446744073709551616 = y := ⟨_, rfl⟩
  rw [hL1, hL2, hR1, hR2] at hless
  rw [hD1, hD2, hR1, hR2, hL1, hL2] at hsub
  rw [hQ1, hQ2, hR1, hR2, hD1, hD2]
  have hq0 : 0 ≤ Q2 := by omega
  by_cases hA : d - r < r
  · have eu : upR q r d = true := by unfold upR; rw [decide_eq_true hA]; rfl
    rw [eu]
    rw [decide_eq_true hA] at hless
    clear eu hA v1 v2 v3 v4 hD1 hD2 hR1 hR2 hQ1 hQ2 hL1 hL2
    go_enter Try.func64, Try.ntmps64
    go_wp2_with (first | (go_at_call 65; go_loud (refine (hsub _).out.mono ?_; rintro e w1 ⟨rfl, hb⟩; have HB1 := Lib.hid hb; have hs1 := hb.size; (try simp at hs1); have XQ := Box2.below (b := w.heap.size) (v0 := .int .u64 Q1) (v1 := .int .u64 Q2) (by constructor <;> go_simp) hb (by first | omega | (simp <;> omega)); have XR := Box2.below (b := w.heap.size + 1) (v0 := .int .u64 R1) (v1 := .int .u64 R2) (by constructor <;> go_simp) hb (by first | omega | (simp <;> omega)); have HXQ := Lib.hid XQ; have HXR := Lib.hid XR; obtain ⟨qc0, qc1, qf0, qf1⟩ := XQ; obtain ⟨rc0, rc1, rf0, rf1⟩ := XR; have hl0 : w.heap.size < w1.heap.size := (by omega); have hl1 : w.heap.size + 1 < w1.heap.size := (by omega); clear hb)) | (go_at_call 66; go_loud (refine (hless _).out.mono ?_; rintro e w2 ⟨rfl, hb⟩; have HB2 := Lib.hid hb; have hs2 := hb.size; (try simp at hs2); have XL := Box2.below (b := w1.heap.size) (v0 := .int .u64 L1) (v1 := .int .u64 L2) (by constructor <;> go_simp) hb (by first | omega | (simp <;> omega)); have XQ2 := (HXQ.out.below (n := w1.heap.size) (by (repeat' (first | exact Below.refl _ _ | refine Below.drew ?_ | refine Below.setCell ?_ (by first | omega | (simp <;> omega)) _ | refine Below.alloc ?_ (by first | omega | (simp <;> omega)) _))) (by first | omega | (simp <;> omega))).below hb (by first | omega | (simp <;> omega)); have XR2 := (HXR.out.below (n := w1.heap.size) (by (repeat' (first | exact Below.refl _ _ | refine Below.drew ?_ | refine Below.setCell ?_ (by first | omega | (simp <;> omega)) _ | refine Below.alloc ?_ (by first | omega | (simp <;> omega)) _))) (by first | omega | (simp <;> omega))).below hb (by first | omega | (simp <;> omega)); obtain ⟨lc0, lc1, lf0, lf1⟩ := XL; obtain ⟨sc0, sc1, sf0, sf1⟩ := XQ2; obtain ⟨tc0, tc1, tf0, tf1⟩ := XR2; clear hb)))
    go_ret
    exact ⟨rfl, Below.trans (by (repeat' (first | exact Below.refl _ _ | refine Below.drew ?_ | refine Below.setCell ?_ (by first | omega | (simp <;> omega)) _ | refine Below.alloc ?_ (by first | omega | (simp <;> omega)) _))) (Below.trans (HB1.out.mono (by first | omega | (simp <;> omega))) (Below.trans (by (repeat' (first | exact Below.refl _ _ | refine Below.drew ?_ | refine Below.setCell ?_ (by first | omega | (simp <;> omega)) _ | refine Below.alloc ?_ (by first | omega | (simp <;> omega)) _))) (HB2.out.mono (by first | omega | (simp <;> omega)))))⟩
  · rw [decide_eq_false hA] at hless
    by_cases hE : d - r = r
    · have e1 : L1 = R1 := by omega
      have e2 : L2 = R2 := by omega
      by_cases hO : q % 2 = 1
      · have eu : upR q r d = true := by unfold upR; rw [decide_eq_false hA, decide_eq_true hE, decide_eq_true hO]; rfl
        have e3 : Q2 % 2 = 1 := by omega
        have e4 : (Q2 % 2 == 1) = true := by simp; exact e3
        rw [eu]
        clear eu hA hE hO v1 v2 v3 v4 hD1 hD2 hR1 hR2 hQ1 hQ2 hL1 hL2
        subst e1; subst e2
        go_enter Try.func64, Try.ntmps64
        go_wp2_with (first | (go_at_call 65; go_loud (refine (hsub _).out.mono ?_; rintro e w1 ⟨rfl, hb⟩; have HB1 := Lib.hid hb; have hs1 := hb.size; (try simp at hs1); have XQ := Box2.below (b := w.heap.size) (v0 := .int .u64 Q1) (v1 := .int .u64 Q2) (by constructor <;> go_simp) hb (by first | omega | (simp <;> omega)); have XR := Box2.below (b := w.heap.size + 1) (v0 := .int .u64 L1) (v1 := .int .u64 L2) (by constructor <;> go_simp) hb (by first | omega | (simp <;> omega)); have HXQ := Lib.hid XQ; have HXR := Lib.hid XR; obtain ⟨qc0, qc1, qf0, qf1⟩ := XQ; obtain ⟨rc0, rc1, rf0, rf1⟩ := XR; have hl0 : w.heap.size < w1.heap.size := (by omega); have hl1 : w.heap.size + 1 < w1.heap.size := (by omega); clear hb)) | (go_at_call 66; go_loud (refine (hless _).out.mono ?_; rintro e w2 ⟨rfl, hb⟩; have HB2 := Lib.hid hb; have hs2 := hb.size; (try simp at hs2); have XL := Box2.below (b := w1.heap.size) (v0 := .int .u64 L1) (v1 := .int .u64 L2) (by constructor <;> go_simp) hb (by first | omega | (simp <;> omega)); have XQ2 := (HXQ.out.below (n := w1.heap.size) (by (repeat' (first | exact Below.refl _ _ | refine Below.drew ?_ | refine Below.setCell ?_ (by first | omega | (simp <;> omega)) _ | refine Below.alloc ?_ (by first | omega | (simp <;> omega)) _))) (by first | omega | (simp <;> omega))).below hb (by first | omega | (simp <;> omega)); have XR2 := (HXR.out.below (n := w1.heap.size) (by (repeat' (first | exact Below.refl _ _ | refine Below.drew ?_ | refine Below.setCell ?_ (by first | omega | (simp <;> omega)) _ | refine Below.alloc ?_ (by first | omega | (simp <;> omega)) _))) (by first | omega | (simp <;> omega))).below hb (by first | omega | (simp <;> omega)); obtain ⟨lc0, lc1, lf0, lf1⟩ := XL; obtain ⟨sc0, sc1, sf0, sf1⟩ := XQ2; obtain ⟨tc0, tc1, tf0, tf1⟩ := XR2; clear hb)))
        go_ret
        exact ⟨rfl, Below.trans (by (repeat' (first | exact Below.refl _ _ | refine Below.drew ?_ | refine Below.setCell ?_ (by first | omega | (simp <;> omega)) _ | refine Below.alloc ?_ (by first | omega | (simp <;> omega)) _))) (Below.trans (HB1.out.mono (by first | omega | (simp <;> omega))) (Below.trans (by (repeat' (first | exact Below.refl _ _ | refine Below.drew ?_ | refine Below.setCell ?_ (by first | omega | (simp <;> omega)) _ | refine Below.alloc ?_ (by first | omega | (simp <;> omega)) _))) (HB2.out.mono (by first | omega | (simp <;> omega)))))⟩
      · have eu : upR q r d = false := by unfold upR; rw [decide_eq_false hA, decide_eq_true hE, decide_eq_false hO]; rfl
        have e3 : ¬ Q2 % 2 = 1 := by omega
        have e4 : (Q2 % 2 == 1) = false := by simp; omega
        rw [eu]
        clear eu hA hE hO v1 v2 v3 v4 hD1 hD2 hR1 hR2 hQ1 hQ2 hL1 hL2
        subst e1; subst e2
        go_enter Try.func64, Try.ntmps64
        go_wp2_with (first | (go_at_call 65; go_loud (refine (hsub _).out.mono ?_; rintro e w1 ⟨rfl, hb⟩; have HB1 := Lib.hid hb; have hs1 := hb.size; (try simp at hs1); have XQ := Box2.below (b := w.heap.size) (v0 := .int .u64 Q1) (v1 := .int .u64 Q2) (by constructor <;> go_simp) hb (by first | omega | (simp <;> omega)); have XR := Box2.below (b := w.heap.size + 1) (v0 := .int .u64 L1) (v1 := .int .u64 L2) (by constructor <;> go_simp) hb (by first | omega | (simp <;> omega)); have HXQ := Lib.hid XQ; have HXR := Lib.hid XR; obtain ⟨qc0, qc1, qf0, qf1⟩ := XQ; obtain ⟨rc0, rc1, rf0, rf1⟩ := XR; have hl0 : w.heap.size < w1.heap.size := (by omega); have hl1 : w.heap.size + 1 < w1.heap.size := (by omega); clear hb)) | (go_at_call 66; go_loud (refine (hless _).out.mono ?_; rintro e w2 ⟨rfl, hb⟩; have HB2 := Lib.hid hb; have hs2 := hb.size; (try simp at hs2); have XL := Box2.below (b := w1.heap.size) (v0 := .int .u64 L1) (v1 := .int .u64 L2) (by constructor <;> go_simp) hb (by first | omega | (simp <;> omega)); have XQ2 := (HXQ.out.below (n := w1.heap.size) (by (repeat' (first | exact Below.refl _ _ | refine Below.drew ?_ | refine Below.setCell ?_ (by first | omega | (simp <;> omega)) _ | refine Below.alloc ?_ (by first | omega | (simp <;> omega)) _))) (by first | omega | (simp <;> omega))).below hb (by first | omega | (simp <;> omega)); have XR2 := (HXR.out.below (n := w1.heap.size) (by (repeat' (first | exact Below.refl _ _ | refine Below.drew ?_ | refine Below.setCell ?_ (by first | omega | (simp <;> omega)) _ | refine Below.alloc ?_ (by first | omega | (simp <;> omega)) _))) (by first | omega | (simp <;> omega))).below hb (by first | omega | (simp <;> omega)); obtain ⟨lc0, lc1, lf0, lf1⟩ := XL; obtain ⟨sc0, sc1, sf0, sf1⟩ := XQ2; obtain ⟨tc0, tc1, tf0, tf1⟩ := XR2; clear hb)))
        go_ret
        exact ⟨rfl, Below.trans (by (repeat' (first | exact Below.refl _ _ | refine Below.drew ?_ | refine Below.setCell ?_ (by first | omega | (simp <;> omega)) _ | refine Below.alloc ?_ (by first | omega | (simp <;> omega)) _))) (Below.trans (HB1.out.mono (by first | omega | (simp <;> omega))) (Below.trans (by (repeat' (first | exact Below.refl _ _ | refine Below.drew ?_ | refine Below.setCell ?_ (by first | omega | (simp <;> omega)) _ | refine Below.alloc ?_ (by first | omega | (simp <;> omega)) _))) (HB2.out.mono (by first | omega | (simp <;> omega)))))⟩
    · have eu : upR q r d = false := by unfold upR; rw [decide_eq_false hA, decide_eq_false hE]; rfl
      rw [eu]
      by_cases e1 : L1 = R1
      · have e2 : ¬ L2 = R2 := by omega
        have e3 : (L2 == R2) = false := by simp; exact e2
        clear eu hA hE v1 v2 v3 v4 hD1 hD2 hR1 hR2 hQ1 hQ2 hL1 hL2
        subst e1
        go_enter Try.func64, Try.ntmps64
        go_wp2_with (first | (go_at_call 65; go_loud (refine (hsub _).out.mono ?_; rintro e w1 ⟨rfl, hb⟩; have HB1 := Lib.hid hb; have hs1 := hb.size; (try simp at hs1); have XQ := Box2.below (b := w.heap.size) (v0 := .int .u64 Q1) (v1 := .int .u64 Q2) (by constructor <;> go_simp) hb (by first | omega | (simp <;> omega)); have XR := Box2.below (b := w.heap.size + 1) (v0 := .int .u64 L1) (v1 := .int .u64 R2) (by constructor <;> go_simp) hb (by first | omega | (simp <;> omega)); have HXQ := Lib.hid XQ; have HXR := Lib.hid XR; obtain ⟨qc0, qc1, qf0, qf1⟩ := XQ; obtain ⟨rc0, rc1, rf0, rf1⟩ := XR; have hl0 : w.heap.size < w1.heap.size := (by omega); have hl1 : w.heap.size + 1 < w1.heap.size := (by omega); clear hb)) | (go_at_call 66; go_loud (refine (hless _).out.mono ?_; rintro e w2 ⟨rfl, hb⟩; have HB2 := Lib.hid hb; have hs2 := hb.size; (try simp at hs2); have XL := Box2.below (b := w1.heap.size) (v0 := .int .u64 L1) (v1 := .int .u64 L2) (by constructor <;> go_simp) hb (by first | omega | (simp <;> omega)); have XQ2 := (HXQ.out.below (n := w1.heap.size) (by (repeat' (first | exact Below.refl _ _ | refine Below.drew ?_ | refine Below.setCell ?_ (by first | omega | (simp <;> omega)) _ | refine Below.alloc ?_ (by first | omega | (simp <;> omega)) _))) (by first | omega | (simp <;> omega))).below hb (by first | omega | (simp <;> omega)); have XR2 := (HXR.out.below (n := w1.heap.size) (by (repeat' (first | exact Below.refl _ _ | refine Below.drew ?_ | refine Below.setCell ?_ (by first | omega | (simp <;> omega)) _ | refine Below.alloc ?_ (by first | omega | (simp <;> omega)) _))) (by first | omega | (simp <;> omega))).below hb (by first | omega | (simp <;> omega)); obtain ⟨lc0, lc1, lf0, lf1⟩ := XL; obtain ⟨sc0, sc1, sf0, sf1⟩ := XQ2; obtain ⟨tc0, tc1, tf0, tf1⟩ := XR2; clear hb)))
        go_ret
        exact ⟨rfl, Below.trans (by (repeat' (first | exact Below.refl _ _ | refine Below.drew ?_ | refine Below.setCell ?_ (by first | omega | (simp <;> omega)) _ | refine Below.alloc ?_ (by first | omega | (simp <;> omega)) _))) (Below.trans (HB1.out.mono (by first | omega | (simp <;> omega))) (Below.trans (by (repeat' (first | exact Below.refl _ _ | refine Below.drew ?_ | refine Below.setCell ?_ (by first | omega | (simp <;> omega)) _ | refine Below.alloc ?_ (by first | omega | (simp <;> omega)) _))) (HB2.out.mono (by first | omega | (simp <;> omega)))))⟩
      · have e3 : (L1 == R1) = false := by simp; exact e1
        clear eu hA hE v1 v2 v3 v4 hD1 hD2 hR1 hR2 hQ1 hQ2 hL1 hL2
        go_enter Try.func64, Try.ntmps64
        go_wp2_with (first | (go_at_call 65; go_loud (refine (hsub _).out.mono ?_; rintro e w1 ⟨rfl, hb⟩; have HB1 := Lib.hid hb; have hs1 := hb.size; (try simp at hs1); have XQ := Box2.below (b := w.heap.size) (v0 := .int .u64 Q1) (v1 := .int .u64 Q2) (by constructor <;> go_simp) hb (by first | omega | (simp <;> omega)); have XR := Box2.below (b := w.heap.size + 1) (v0 := .int .u64 R1) (v1 := .int .u64 R2) (by constructor <;> go_simp) hb (by first | omega | (simp <;> omega)); have HXQ := Lib.hid XQ; have HXR := Lib.hid XR; obtain ⟨qc0, qc1, qf0, qf1⟩ := XQ; obtain ⟨rc0, rc1, rf0, rf1⟩ := XR; have hl0 : w.heap.size < w1.heap.size := (by omega); have hl1 : w.heap.size + 1 < w1.heap.size := (by omega); clear hb)) | (go_at_call 66; go_loud (refine (hless _).out.mono ?_; rintro e w2 ⟨rfl, hb⟩; have HB2 := Lib.hid hb; have hs2 := hb.size; (try simp at hs2); have XL := Box2.below (b := w1.heap.size) (v0 := .int .u64 L1) (v1 := .int .u64 L2) (by constructor <;> go_simp) hb (by first | omega | (simp <;> omega)); have XQ2 := (HXQ.out.below (n := w1.heap.size) (by (repeat' (first | exact Below.refl _ _ | refine Below.drew ?_ | refine Below.setCell ?_ (by first | omega | (simp <;> omega)) _ | refine Below.alloc ?_ (by first | omega | (simp <;> omega)) _))) (by first | omega | (simp <;> omega))).below hb (by first | omega | (simp <;> omega)); have XR2 := (HXR.out.below (n := w1.heap.size) (by (repeat' (first | exact Below.refl _ _ | refine Below.drew ?_ | refine Below.setCell ?_ (by first | omega | (simp <;> omega)) _ | refine Below.alloc ?_ (by first | omega | (simp <;> omega)) _))) (by first | omega | (simp <;> omega))).below hb (by first | omega | (simp <;> omega)); obtain ⟨lc0, lc1, lf0, lf1⟩ := XL; obtain ⟨sc0, sc1, sf0, sf1⟩ := XQ2; obtain ⟨tc0, tc1, tf0, tf1⟩ := XR2; clear hb)))
        go_ret
        exact ⟨rfl, Below.trans (by (repeat' (first | exact Below.refl _ _ | refine Below.drew ?_ | refine Below.setCell ?_ (by first | omega | (simp <;> omega)) _ | refine Below.alloc ?_ (by first | omega | (simp <;> omega)) _))) (Below.trans (HB1.out.mono (by first | omega | (simp <;> omega))) (Below.trans (by (repeat' (first | exact Below.refl _ _ | refine Below.drew ?_ | refine Below.setCell ?_ (by first | omega | (simp <;> omega)) _ | refine Below.alloc ?_ (by first | omega | (simp <;> omega)) _))) (HB2.out.mono (by first | omega | (simp <;> omega)))))⟩
end Go.Proofs.Ytmjcpgfekpedkaa
namespace Go.Proofs.Ytmjcpgfekpedkaa
open Go.ChangeShapes Go.WideShapes Go.RowKit Go.Rt
/-- An element of layer 1's statements: two wide numbers, two words, a count. -/
structure PairAt (w : World) (hi b o : Nat) (ah al bh bl x y n : Int) : Prop where
  lt : b < hi
  c0 : w.cell? ⟨b, o, none⟩ = some (.int .i64 ah)
  c1 : w.cell? ⟨b, o + 1, none⟩ = some (.int .u64 al)
  c2 : w.cell? ⟨b, o + 2, none⟩ = some (.int .i64 bh)
  c3 : w.cell? ⟨b, o + 3, none⟩ = some (.int .u64 bl)
  c4 : w.cell? ⟨b, o + 4, none⟩ = some (.int .i64 x)
  c5 : w.cell? ⟨b, o + 5, none⟩ = some (.int .i64 y)
  c6 : w.cell? ⟨b, o + 6, none⟩ = some (.int .i64 n)
  a : WR ah al
  b' : WR bh bl
  x0 : -9223372036854775808 ≤ x
  x1 : x ≤ 9223372036854775807
  y0 : -9223372036854775808 ≤ y
  y1 : y ≤ 9223372036854775807
  n0 : -9223372036854775808 ≤ n
  n1 : n ≤ 9223372036854775807
theorem PairAt.below {w w' : World} {hi b o : Nat} {ah al bh bl x y n : Int} (h : PairAt w hi b o ah al bh bl x y n) (hb : Below hi w w') : PairAt w' hi b o ah al bh bl x y n :=
  ⟨h.lt, (hb.cell (p := ⟨b, o, none⟩) h.lt).trans h.c0, (hb.cell (p := ⟨b, o + 1, none⟩) h.lt).trans h.c1, (hb.cell (p := ⟨b, o + 2, none⟩) h.lt).trans h.c2, (hb.cell (p := ⟨b, o + 3, none⟩) h.lt).trans h.c3,
   (hb.cell (p := ⟨b, o + 4, none⟩) h.lt).trans h.c4, (hb.cell (p := ⟨b, o + 5, none⟩) h.lt).trans h.c5, (hb.cell (p := ⟨b, o + 6, none⟩) h.lt).trans h.c6, h.a, h.b', h.x0, h.x1, h.y0, h.y1, h.n0, h.n1⟩
end Go.Proofs.Ytmjcpgfekpedkaa
namespace Go.Proofs.Ytmjcpgfekpedkaa
open Go.RowKit Go.Rt
theorem lz64_any (x : Int) (w : World) (h0 : 0 ≤ x) (h1 : x ≤ 18446744073709551615) :
    Calls Try.prog 100 #[.int .u64 x] w fun e w' => e = .returned (.int .i64 (64 - (Lib.bitLen x.toNat : Int))) ∧ w' = w := by
  have l := bitLen_64 x h0 h1
  have e8 : RowKit.wrap64 (64 - (Lib.bitLen x.toNat : Int)) = 64 - (Lib.bitLen x.toNat : Int) := by unfold RowKit.wrap64; omega
  go_enter Try.func100, Try.ntmps100
  go_wp2_with (go_at_call 102; refine (len64_any x _ h0 h1).mono ?_; rintro e w' ⟨rfl, rfl⟩)
  go_ret
  refine ⟨?_, rfl⟩
  rw [← e8]
  rfl
/-- The divisor, shifted till its highest bit is set. -/
theorem norm_facts (y : Int) (S : Nat) (y0 : 1 ≤ y) (y1 : y ≤ 18446744073709551615) (hS : 64 - (Lib.bitLen y.toNat : Int) = S) :
    S ≤ 63 ∧ (2 : Int) ^ S * (2 : Int) ^ (64 - S) = 18446744073709551616 ∧ 1 ≤ (2 : Int) ^ S ∧ 1 ≤ (2 : Int) ^ (64 - S) ∧ 9223372036854775808 ≤ y * (2 : Int) ^ S ∧ y * (2 : Int) ^ S < 18446744073709551616 := by
  obtain ⟨h1, h2⟩ := bitLen_bounds y.toNat (by omega)
  obtain ⟨h3, h4⟩ := h2 (by omega)
  have h64 := bitLen_64 y (by omega) y1
  generalize Lib.bitLen y.toNat = B at *
  have e : B = 64 - S := by omega
  have hS63 : S ≤ 63 := by omega
  have p1 : 2 ^ S * 2 ^ (64 - S) = 18446744073709551616 := by rw [← Nat.pow_add, Nat.add_sub_cancel' (by omega)]
  have p2 : 2 ^ S * 2 ^ (64 - S - 1) = 9223372036854775808 := by
    have : S + (64 - S - 1) = 63 := by omega
    rw [← Nat.pow_add, this]
  subst e
  have a1 : y.toNat * 2 ^ S < 18446744073709551616 := by rw [← p1, Nat.mul_comm (2 ^ S)]; exact Nat.mul_lt_mul_of_pos_right h1 (Nat.two_pow_pos S)
  have a2 : 9223372036854775808 ≤ y.toNat * 2 ^ S := by rw [← p2, Nat.mul_comm (2 ^ S)]; exact Nat.mul_le_mul_right _ h4
  have c1 := castPow S
  have c2 := castPow (64 - S)
  have ey : y = (y.toNat : Int) := by omega
  refine ⟨hS63, ?_, ?_, ?_, ?_, ?_⟩
  · rw [← c1, ← c2, ← Int.natCast_mul, p1]; rfl
  · rw [← c1]; have := Nat.two_pow_pos S; omega
  · rw [← c2]; have := Nat.two_pow_pos (64 - S); omega
  · rw [ey, ← c1, ← Int.natCast_mul]; exact Int.ofNat_le.mpr a2
  · rw [ey, ← c1, ← Int.natCast_mul]; exact Int.ofNat_lt.mpr a1
/-- The number, shifted as the divisor. -/
theorem norm_num (hi lo y p p' : Int) (k0 : 0 ≤ hi) (k1 : hi < y) (l0 : 0 ≤ lo) (l1 : lo ≤ 18446744073709551615) (pp : p * p' = 18446744073709551616) (hp : 1 ≤ p) (hp' : 1 ≤ p') (hy : y * p < 18446744073709551616) :
    0 ≤ hi * p ∧ hi * p < 18446744073709551616 ∧ 0 ≤ lo / p' ∧ lo / p' < p ∧ hi * p + lo / p' < y * p ∧ (hi * 18446744073709551616 + lo) * p = (hi * p + lo / p') * 18446744073709551616 + lo * p % 18446744073709551616 := by
  have h1 : 0 ≤ hi * p := Int.mul_nonneg k0 (by omega)
  have h2 : hi * p + p ≤ y * p := by
    have := Int.mul_le_mul_of_nonneg_right (show hi + 1 ≤ y by omega) (show 0 ≤ p by omega)
    rw [Int.add_mul, Int.one_mul] at this
    exact this
  have h3 : 0 ≤ lo / p' := Int.ediv_nonneg l0 (by omega)
  have h4 : lo / p' < p := Int.ediv_lt_of_lt_mul (by omega) (by rw [pp]; omega)
  refine ⟨h1, by omega, h3, h4, by omega, ?_⟩
  have h5 := Int.mul_ediv_add_emod lo p'
  have h6 : 0 ≤ lo % p' := Int.emod_nonneg _ (by omega)
  have h7 : lo % p' < p' := Int.emod_lt_of_pos _ (by omega)
  have h8 : lo * p = lo / p' * 18446744073709551616 + lo % p' * p := by
    rw [← pp]
    conv => lhs; rw [← h5]
    rw [Int.add_mul, Int.mul_comm p' (lo / p'), Int.mul_assoc (lo / p') p' p, Int.mul_comm p' p]
  have h9 : 0 ≤ lo % p' * p := Int.mul_nonneg h6 (by omega)
  have ha : lo % p' * p < 18446744073709551616 := by
    rw [← pp, Int.mul_comm p p']
    exact Int.mul_lt_mul_of_pos_right h7 (by omega)
  have hb : lo * p % 18446744073709551616 = lo % p' * p := by rw [h8]; omega
  rw [hb, Int.add_mul, Int.add_mul, h8, Int.mul_assoc hi, Int.mul_assoc hi, Int.mul_comm 18446744073709551616 p]
  omega
/-- What the two steps tell, put together. -/
theorem norm_told (N y p Q r : Int) (hp : 1 ≤ p) (h : N * p = Q * (y * p) + r) (r0 : 0 ≤ r) (r1 : r < y * p) : Q = N / y ∧ r / p = N % y := by
  have e : r = (N - Q * y) * p := by rw [Int.sub_mul, Int.mul_assoc Q]; omega
  have t0 : 0 ≤ N - Q * y := by
    rcases Int.lt_or_le (N - Q * y) 0 with h0 | h0
    · have := Int.mul_le_mul_of_nonneg_right (show N - Q * y ≤ -1 by omega) (show 0 ≤ p by omega)
      omega
    · exact h0
  have t1 : N - Q * y < y := by
    rcases Int.lt_or_le (N - Q * y) y with h0 | h0
    · exact h0
    · have := Int.mul_le_mul_of_nonneg_right h0 (show 0 ≤ p by omega)
      omega
  have eq : N / y = Q := by
    have : N = (N - Q * y) + Q * y := by omega
    rw [this, Int.add_mul_ediv_right _ _ (by omega), Int.ediv_eq_zero_of_lt t0 t1]
    omega
  refine ⟨eq.symm, ?_⟩
  rw [e, Int.mul_ediv_cancel _ (by omega)]
  have := Int.mul_ediv_add_emod N y
  rw [eq, Int.mul_comm y Q] at this
  omega
end Go.Proofs.Ytmjcpgfekpedkaa
namespace Go.Proofs.Ytmjcpgfekpedkaa
open Go.RowKit Go.Rt
variable (a b u d Y q r : Int)
/-- A digit's bounds. -/
theorem digit_lt (hY : 0 < Y) (u1 : u < Y) (d1 : d < 4294967296) : (u * 4294967296 + d) / Y < 4294967296 :=
  Int.ediv_lt_of_lt_mul hY (by omega)
theorem digit_first (hY : Y = a * 4294967296 + b) (a0 : 1 ≤ a) (b0 : 0 ≤ b) (u0 : 0 ≤ u) (d0 : 0 ≤ d) (d1 : d < 4294967296) : (u * 4294967296 + d) / Y ≤ u / a := by
  have hYp : 0 < Y := by omega
  have hQ0 : 0 ≤ (u * 4294967296 + d) / Y := Int.ediv_nonneg (by omega) (by omega)
  have h := Int.ediv_mul_le (u * 4294967296 + d) (show Y ≠ 0 by omega)
  generalize (u * 4294967296 + d) / Y = Q at *
  rw [hY, Int.mul_add, ← Int.mul_assoc] at h
  have hb := Int.mul_nonneg hQ0 b0
  exact Int.le_ediv_of_mul_le (by omega) (by omega)
theorem digit_done (hY : Y = a * 4294967296 + b) (hYp : 0 < Y) (hu : q * a + r = u) (hQ : (u * 4294967296 + d) / Y ≤ q) (h : q * b ≤ 4294967296 * r + d) : (u * 4294967296 + d) / Y = q := by
  have : q ≤ (u * 4294967296 + d) / Y := by
    refine Int.le_ediv_of_mul_le hYp ?_
    rw [hY, Int.mul_add, ← Int.mul_assoc]
    omega
  omega
theorem digit_down (hY : Y = a * 4294967296 + b) (hYp : 0 < Y) (u1 : u < Y) (d1 : d < 4294967296) (hu : q * a + r = u) (hQ : (u * 4294967296 + d) / Y ≤ q) (h : 4294967296 ≤ q ∨ 4294967296 * r + d < q * b) : (u * 4294967296 + d) / Y ≤ q - 1 := by
  have h1 := digit_lt u d Y hYp u1 d1
  rcases h with h | h
  · omega
  · have h2 := Int.ediv_mul_le (u * 4294967296 + d) (show Y ≠ 0 by omega)
    rcases Int.lt_or_le ((u * 4294967296 + d) / Y) q with h3 | h3
    · omega
    · have e : (u * 4294967296 + d) / Y = q := by omega
      rw [e, hY, Int.mul_add, ← Int.mul_assoc] at h2
      omega
theorem digit_break (hY : Y = a * 4294967296 + b) (a0 : 1 ≤ a) (b0 : 0 ≤ b) (b1 : b < 4294967296) (u1 : u < Y) (d0 : 0 ≤ d) (q0 : 0 ≤ q) (hu : q * a + r = u) (hQ : (u * 4294967296 + d) / Y ≤ q) (h : 4294967296 ≤ r) : (u * 4294967296 + d) / Y = q := by
  refine digit_done a b u d Y q r hY (by omega) hu hQ ?_
  have hq : q < 4294967296 := by
    rcases Int.lt_or_le q 4294967296 with h0 | h0
    · exact h0
    · have := Int.mul_le_mul_of_nonneg_right h0 (show 0 ≤ a by omega)
      omega
  have := Int.mul_le_mul (show q ≤ 4294967295 by omega) (show b ≤ 4294967295 by omega) b0 (by omega)
  omega
end Go.Proofs.Ytmjcpgfekpedkaa
namespace Go.Proofs.Ytmjcpgfekpedkaa
open Go.RowKit Go.Rt
set_option maxHeartbeats 2000000 in
set_option maxRecDepth 100000 in
theorem div64_hi (hi lo y : Int) (w : World) (k0 : 1 ≤ hi) (k1 : hi < y) (l0 : 0 ≤ lo) (l1 : lo ≤ 18446744073709551615) (y1 : y ≤ 18446744073709551615) :
    Calls Try.prog 97 #[.int .u64 hi, .int .u64 lo, .int .u64 y] w fun e w' => e = .returned (.tuple #[.int .u64 ((hi * 18446744073709551616 + lo) / y), .int .u64 ((hi * 18446744073709551616 + lo) % y)]) ∧ Below w.heap.size w w' := by
  have hy0 : (y == 0) = false := by simp; omega
  have hh0 : (hi == 0) = false := by simp; omega
  have hy1 : ¬ y ≤ hi := by omega
  have hy2 : ¬ y = 0 := by omega
  have hlz := fun w => Lib.hid (lz64_any y w (by omega) y1)
  obtain ⟨S, hS⟩ : ∃ q : Nat, 64 - (Lib.bitLen y.toNat : Int) = q := ⟨64 - Lib.bitLen y.toNat, by have := bitLen_64 y (by omega) y1; omega⟩
  rw [hS] at hlz
  obtain ⟨hS63, pp, hp, hp', hY0, hY1⟩ := norm_facts y S (by omega) y1 hS
  obtain ⟨hh1, hh2, hlq1, hlq2, hUY, hN⟩ := norm_num hi lo y ((2 : Int) ^ S) ((2 : Int) ^ (64 - S)) (by omega) k1 l0 l1 pp hp hp' hY1
  have hSw : IntKind.u64.wrap (S : Int) = S := by rw [wrapU]; omega
  have eY : IntKind.u64.wrap (y * 2 ^ S) = y * 2 ^ S := by rw [wrapU]; omega
  have eH : IntKind.u64.wrap (hi * 2 ^ S) = hi * 2 ^ S := by rw [wrapU]; omega
  have eL : IntKind.u64.wrap (lo * 2 ^ S) = lo * 2 ^ S % 18446744073709551616 := by rw [wrapU]
  have eU : bits BinOp.or IntKind.u64 (hi * 2 ^ S) (lo / 2 ^ (64 - S)) = hi * 2 ^ S + lo / 2 ^ (64 - S) :=
    bits_join IntKind.u64 64 (by decide) (fun n h0 h1 => by rw [wrapU]; omega) S _ _ hh1 (Int.mul_emod_left _ _) (by omega) hlq1 hlq2 (by omega)
  have hQR := norm_told (hi * 18446744073709551616 + lo) y ((2 : Int) ^ S)
  obtain ⟨Y, hY⟩ : ∃ q, y * 2 ^ S = q := ⟨_, rfl⟩
  obtain ⟨L, hL⟩ : ∃ q, lo * 2 ^ S % 18446744073709551616 = q := ⟨_, rfl⟩
  obtain ⟨HP, hHP⟩ : ∃ q, hi * 2 ^ S = q := ⟨_, rfl⟩
  obtain ⟨LQ, hLQ⟩ : ∃ q, lo / 2 ^ (64 - S) = q := ⟨_, rfl⟩
  obtain ⟨U, hU⟩ : ∃ q, HP + LQ = q := ⟨_, rfl⟩
  obtain ⟨a, ha⟩ : ∃ q, Y / 4294967296 = q := ⟨_, rfl⟩
  obtain ⟨b, hb⟩ : ∃ q, Y % 4294967296 = q := ⟨_, rfl⟩
  obtain ⟨d1, hd1⟩ : ∃ q, L / 4294967296 = q := ⟨_, rfl⟩
  obtain ⟨d0, hd0⟩ : ∃ q, L % 4294967296 = q := ⟨_, rfl⟩
  have hLb : 0 ≤ L ∧ L < 18446744073709551616 := by omega
  rw [hY] at eY hY0 hY1 hUY hQR
  rw [hL] at eL hN
  rw [hHP, hLQ, hU] at hUY hN
  rw [hHP] at eH
  rw [hHP, hLQ, hU] at eU
  have hU0 : 0 ≤ U := by omega
  have m1 : bits BinOp.and IntKind.u64 Y 4294967295 = b := by rw [← hb]; exact bits_mask IntKind.u64 64 (by decide) (fun n h0 h1 => by rw [wrapU]; omega) 32 (by omega) Y (by omega) (by omega)
  have m2 : bits BinOp.and IntKind.u64 L 4294967295 = d0 := by rw [← hd0]; exact bits_mask IntKind.u64 64 (by decide) (fun n h0 h1 => by rw [wrapU]; omega) 32 (by omega) L (by omega) (by omega)
  have HYab := Lib.hid (show Y = a * 4294967296 + b by omega)
  have HLd := Lib.hid (show L = d1 * 4294967296 + d0 by omega)
  have ha0 : 2147483648 ≤ a := by omega
  have ha1 : a < 4294967296 := by omega
  have hb0 : 0 ≤ b := by omega
  have hb1 : b < 4294967296 := by omega
  have hd10 : 0 ≤ d1 := by omega
  have hd11 : d1 < 4294967296 := by omega
  have hd00 : 0 ≤ d0 := by omega
  have hd01 : d0 < 4294967296 := by omega
  have hA0 : (a == 0) = false := by simp; omega
  have hA0' : ¬ a = 0 := by omega
  have hYp : 0 < Y := by omega
  have hd1b : U * 4294967296 + d1 = U * 4294967296 + d1 := rfl
  clear hd1b
  have d10 := hd10
  have d11 := hd11
  have d00 := hd00
  have d01 := hd01
  clear hd10 hd11 hd00 hd01
  -- the first digit
  obtain ⟨Q1, hQ1⟩ : ∃ q, (U * 4294967296 + d1) / Y = q := ⟨_, rfl⟩
  obtain ⟨R1, hR1⟩ : ∃ q, (U * 4294967296 + d1) % Y = q := ⟨_, rfl⟩
  have hQ10 : 0 ≤ Q1 := by rw [← hQ1]; exact Int.ediv_nonneg (by omega) (by omega)
  have hQ11 : Q1 < 4294967296 := by rw [← hQ1]; exact digit_lt U d1 Y hYp hUY d11
  have hR10 : 0 ≤ R1 := by rw [← hR1]; exact Int.emod_nonneg _ (by omega)
  have hR11 : R1 < Y := by rw [← hR1]; exact Int.emod_lt_of_pos _ hYp
  have hE1 := Lib.hid (show U * 4294967296 + d1 = Q1 * Y + R1 by have := Int.mul_ediv_add_emod (U * 4294967296 + d1) Y; rw [hQ1, hR1, Int.mul_comm] at this; omega)
  have hfirst1 := Lib.hid (digit_first a b U d1 Y HYab.out (by omega) hb0 hU0 d10 d11)
  have hstart1 := Lib.hid (Int.mul_ediv_add_emod U a)
  rw [Int.mul_comm] at hstart1
  obtain ⟨q1, hq1⟩ : ∃ q, U / a = q := ⟨_, rfl⟩
  obtain ⟨r1, hr1⟩ : ∃ q, U % a = q := ⟨_, rfl⟩
  have hrs1 : 0 ≤ r1 := by rw [← hr1]; exact Int.emod_nonneg _ (by omega)
  have hrt1 : r1 < a := by rw [← hr1]; exact Int.emod_lt_of_pos _ (by omega)
  rw [hq1, hr1] at hstart1
  rw [hq1, hQ1] at hfirst1
  have eq1 : IntKind.u64.wrap (q1 * a) = q1 * a := by rw [wrapU]; have := hstart1.out; have : 0 ≤ q1 := (by rw [← hq1]; exact Int.ediv_nonneg hU0 (by omega)); have := Int.mul_nonneg this (show 0 ≤ a by omega); omega
  have er1 : IntKind.u64.wrap (U - q1 * a) = r1 := by rw [wrapU]; have := hstart1.out; omega
  clear hr1
  have kdown1 := Lib.hid (fun (q r : Int) (h1 : q * a + r = U) (h2 : Q1 ≤ q) (h3 : 4294967296 ≤ q ∨ 4294967296 * r + d1 < q * b) => (show Q1 ≤ q - 1 by have := digit_down a b U d1 Y q r HYab.out hYp hUY d11 h1 (by rw [hQ1]; exact h2) h3; rw [hQ1] at this; exact this))
  have kdone1 := Lib.hid (fun (q r : Int) (h1 : q * a + r = U) (h2 : Q1 ≤ q) (h3 : q * b ≤ 4294967296 * r + d1) => (show q = Q1 by have := digit_done a b U d1 Y q r HYab.out hYp h1 (by rw [hQ1]; exact h2) h3; rw [hQ1] at this; exact this.symm))
  have kbreak1 := Lib.hid (fun (q r : Int) (h0 : 0 ≤ q) (h1 : q * a + r = U) (h2 : Q1 ≤ q) (h3 : 4294967296 ≤ r) => (show q = Q1 by have := digit_break a b U d1 Y q r HYab.out (by omega) hb0 hb1 hUY d10 h0 h1 (by rw [hQ1]; exact h2) h3; rw [hQ1] at this; exact this.symm))
  -- the second digit
  obtain ⟨Q0, hQ0⟩ : ∃ q, (R1 * 4294967296 + d0) / Y = q := ⟨_, rfl⟩
  obtain ⟨R0, hR0⟩ : ∃ q, (R1 * 4294967296 + d0) % Y = q := ⟨_, rfl⟩
  have hQ00 : 0 ≤ Q0 := by rw [← hQ0]; exact Int.ediv_nonneg (by omega) (by omega)
  have hQ01 : Q0 < 4294967296 := by rw [← hQ0]; exact digit_lt R1 d0 Y hYp hR11 d01
  have hR00 : 0 ≤ R0 := by rw [← hR0]; exact Int.emod_nonneg _ (by omega)
  have hR01 : R0 < Y := by rw [← hR0]; exact Int.emod_lt_of_pos _ hYp
  have hE0 := Lib.hid (show R1 * 4294967296 + d0 = Q0 * Y + R0 by have := Int.mul_ediv_add_emod (R1 * 4294967296 + d0) Y; rw [hQ0, hR0, Int.mul_comm] at this; omega)
  have hfirst0 := Lib.hid (digit_first a b R1 d0 Y HYab.out (by omega) hb0 hR10 d00 d01)
  have hstart0 := Lib.hid (Int.mul_ediv_add_emod R1 a)
  rw [Int.mul_comm] at hstart0
  obtain ⟨q0, hq0⟩ : ∃ q, R1 / a = q := ⟨_, rfl⟩
  obtain ⟨r0, hr0⟩ : ∃ q, R1 % a = q := ⟨_, rfl⟩
  have hrs0 : 0 ≤ r0 := by rw [← hr0]; exact Int.emod_nonneg _ (by omega)
  have hrt0 : r0 < a := by rw [← hr0]; exact Int.emod_lt_of_pos _ (by omega)
  rw [hq0, hr0] at hstart0
  rw [hq0, hQ0] at hfirst0
  have eq0 : IntKind.u64.wrap (q0 * a) = q0 * a := by rw [wrapU]; have := hstart0.out; have : 0 ≤ q0 := (by rw [← hq0]; exact Int.ediv_nonneg hR10 (by omega)); have := Int.mul_nonneg this (show 0 ≤ a by omega); omega
  have er0 : IntKind.u64.wrap (R1 - q0 * a) = r0 := by rw [wrapU]; have := hstart0.out; omega
  clear hr0
  have kdown0 := Lib.hid (fun (q r : Int) (h1 : q * a + r = R1) (h2 : Q0 ≤ q) (h3 : 4294967296 ≤ q ∨ 4294967296 * r + d0 < q * b) => (show Q0 ≤ q - 1 by have := digit_down a b R1 d0 Y q r HYab.out hYp hR11 d01 h1 (by rw [hQ0]; exact h2) h3; rw [hQ0] at this; exact this))
  have kdone0 := Lib.hid (fun (q r : Int) (h1 : q * a + r = R1) (h2 : Q0 ≤ q) (h3 : q * b ≤ 4294967296 * r + d0) => (show q = Q0 by have := digit_done a b R1 d0 Y q r HYab.out hYp h1 (by rw [hQ0]; exact h2) h3; rw [hQ0] at this; exact this.symm))
  have kbreak0 := Lib.hid (fun (q r : Int) (h0 : 0 ≤ q) (h1 : q * a + r = R1) (h2 : Q0 ≤ q) (h3 : 4294967296 ≤ r) => (show q = Q0 by have := digit_break a b R1 d0 Y q r HYab.out (by omega) hb0 hb1 hR11 d00 h0 h1 (by rw [hQ0]; exact h2) h3; rw [hQ0] at this; exact this.symm))
  -- what the rests are
  have eu1 : IntKind.u64.wrap (IntKind.u64.wrap (IntKind.u64.wrap (U * 4294967296) + d1) - IntKind.u64.wrap (Q1 * Y)) = R1 := by simp only [wrapU]; have := hE1.out; omega
  have eu0 : IntKind.u64.wrap (IntKind.u64.wrap (IntKind.u64.wrap (R1 * 4294967296) + d0) - IntKind.u64.wrap (Q0 * Y)) = R0 := by simp only [wrapU]; have := hE0.out; omega
  have hfin := Lib.hid (hQR (Q1 * 4294967296 + Q0) R0 hp (by rw [hN, HLd.out]; have h1 := hE1.out; have h0 := hE0.out; rw [Int.add_mul, Int.mul_right_comm Q1 4294967296 Y]; omega) hR00 hR01)
  have eqq : IntKind.u64.wrap (Q1 * 4294967296) = Q1 * 4294967296 := by rw [wrapU]; omega
  have eqr : IntKind.u64.wrap (Q1 * 4294967296 + Q0) = Q1 * 4294967296 + Q0 := by rw [wrapU]; omega
  rw [← hfin.out.1, ← hfin.out.2]
  clear hfin hE0 hE1 hN hQR hQ1 hR1 hQ0 hR0 HLd
  clear hS hh1 hh2
  subst hq1
  subst hq0
  have hUYU := hUY
  have hUYR1 := hR11
  go_enter Try.func97, Try.ntmps97
  go_upto_block 0 with (first | (go_at_call 100; refine (hlz _).out.mono ?_; rintro e w1 ⟨rfl, rfl⟩))
  go_cut [15] from 67 (fun s15 wx => s15 = .int .u64 Q1 ∧ wx = w1)
  case first =>
    go_wp2
    go_loopw [15, 16] (fun s15 s16 wr => ∃ q r : Int, s15 = .int .u64 q ∧ s16 = .int .u64 r ∧ wr = w1 ∧ q * a + r = U ∧ Q1 ≤ q ∧ 0 ≤ r ∧ r < 4294967296) (fun s15 _ _ => (intOf s15).toNat)
    case atStart => exact ⟨_, _, rfl, rfl, rfl, hstart1.out, hfirst1.out, hrs1, by omega⟩
    case round =>
      obtain ⟨q, r, rfl, rfl, rfl, hqr, hQq, hr0, hr1⟩ := hrel
      have hq0 : 0 ≤ q := Int.le_trans hQ10 hQq
      have hq9 : q < 18446744073709551616 := by have := Int.mul_le_mul_of_nonneg_left (show 1 ≤ a by omega) hq0; rw [Int.mul_one] at this; omega
      have e4 : IntKind.u64.wrap (r + a) = r + a := by rw [wrapU]; omega
      have HQR := Lib.hid hqr
      have HQQ := Lib.hid hQq
      clear hqr hQq
      by_cases hbig : 4294967296 ≤ q
      · skip
        have hdn := Lib.hid (kdown1.out q r HQR.out HQQ.out (.inl hbig))
        have hqp : 1 ≤ q := by have := hdn.out; have := hQ10; omega
        have e3 : IntKind.u64.wrap (q - 1) = q - 1 := by rw [wrapU]; omega
        have hqr2 : Hid ((q - 1) * a + (r + a) = U) := Lib.hid (by rw [Int.sub_mul, Int.one_mul]; have := HQR.out; omega)
        by_cases hbr : 4294967296 ≤ r + a
        · go_wp2
          go_meet
          exact ⟨congrArg (Value.int IntKind.u64) (kbreak1.out (q - 1) (r + a) (by omega) hqr2.out hdn.out hbr), (by first | rfl | trivial)⟩
        · go_wp2
          refine ⟨⟨q - 1, r + a, rfl, rfl, (by first | rfl | trivial), hqr2.out, hdn.out, by omega, by omega⟩, ?_⟩
          simp [intOf]
          omega
      · have hqb := Int.mul_le_mul (show q ≤ 4294967295 by omega) (show b ≤ 4294967295 by omega) hb0 (show (0:Int) ≤ 4294967295 by omega)
        have hqb0 := Int.mul_nonneg hq0 hb0
        have hw1 : IntKind.u64.wrap (q * b) = q * b := by rw [wrapU]; omega
        have hw2 : IntKind.u64.wrap (4294967296 * r) = 4294967296 * r := by rw [wrapU]; omega
        have hw3 : IntKind.u64.wrap (4294967296 * r + d1) = 4294967296 * r + d1 := by rw [wrapU]; omega
        have hdone := fun h => Lib.hid (kdone1.out q r HQR.out HQQ.out h)
        by_cases hgt : 4294967296 * r + d1 < q * b
        · have hgt2 := Lib.hid hgt
          have hdn := Lib.hid (kdown1.out q r HQR.out HQQ.out (.inr hgt2.out))
          have hqp : 1 ≤ q := by have := hdn.out; have := hQ10; omega
          have e3 : IntKind.u64.wrap (q - 1) = q - 1 := by rw [wrapU]; omega
          have hqr2 : Hid ((q - 1) * a + (r + a) = U) := Lib.hid (by rw [Int.sub_mul, Int.one_mul]; have := HQR.out; omega)
          by_cases hbr : 4294967296 ≤ r + a
          · go_wp2
            go_meet
            exact ⟨congrArg (Value.int IntKind.u64) (kbreak1.out (q - 1) (r + a) (by omega) hqr2.out hdn.out hbr), (by first | rfl | trivial)⟩
          · go_wp2
            refine ⟨⟨q - 1, r + a, rfl, rfl, (by first | rfl | trivial), hqr2.out, hdn.out, by omega, by omega⟩, ?_⟩
            simp [intOf]
            omega
        · go_wp2
          go_meet
          exact ⟨congrArg (Value.int IntKind.u64) (hdone (by omega)).out, (by first | rfl | trivial)⟩
  case rest =>
  obtain ⟨rfl, rfl⟩ := hcut
  go_upto_block 2 with fail
  go_cut [18] from 102 (fun s18 wx => s18 = .int .u64 Q0 ∧ wx = wc)
  case first =>
    go_wp2
    go_loopw [16, 18] (fun s16 s18 wr => ∃ q r : Int, s18 = .int .u64 q ∧ s16 = .int .u64 r ∧ wr = wc ∧ q * a + r = R1 ∧ Q0 ≤ q ∧ 0 ≤ r ∧ r < 4294967296) (fun _ s18 _ => (intOf s18).toNat)
    case atStart => exact ⟨_, _, rfl, rfl, rfl, hstart0.out, hfirst0.out, hrs0, by omega⟩
    case round =>
      obtain ⟨q, r, rfl, rfl, rfl, hqr, hQq, hr0, hr1⟩ := hrel
      have hq0 : 0 ≤ q := Int.le_trans hQ00 hQq
      have hq9 : q < 18446744073709551616 := by have := Int.mul_le_mul_of_nonneg_left (show 1 ≤ a by omega) hq0; rw [Int.mul_one] at this; omega
      have e4 : IntKind.u64.wrap (r + a) = r + a := by rw [wrapU]; omega
      have HQR := Lib.hid hqr
      have HQQ := Lib.hid hQq
      clear hqr hQq
      by_cases hbig : 4294967296 ≤ q
      · skip
        have hdn := Lib.hid (kdown0.out q r HQR.out HQQ.out (.inl hbig))
        have hqp : 1 ≤ q := by have := hdn.out; have := hQ00; omega
        have e3 : IntKind.u64.wrap (q - 1) = q - 1 := by rw [wrapU]; omega
        have hqr2 : Hid ((q - 1) * a + (r + a) = R1) := Lib.hid (by rw [Int.sub_mul, Int.one_mul]; have := HQR.out; omega)
        by_cases hbr : 4294967296 ≤ r + a
        · go_wp2
          go_meet
          exact ⟨congrArg (Value.int IntKind.u64) (kbreak0.out (q - 1) (r + a) (by omega) hqr2.out hdn.out hbr), (by first | rfl | trivial)⟩
        · go_wp2
          refine ⟨⟨q - 1, r + a, rfl, rfl, (by first | rfl | trivial), hqr2.out, hdn.out, by omega, by omega⟩, ?_⟩
          simp [intOf]
          omega
      · have hqb := Int.mul_le_mul (show q ≤ 4294967295 by omega) (show b ≤ 4294967295 by omega) hb0 (show (0:Int) ≤ 4294967295 by omega)
        have hqb0 := Int.mul_nonneg hq0 hb0
        have hw1 : IntKind.u64.wrap (q * b) = q * b := by rw [wrapU]; omega
        have hw2 : IntKind.u64.wrap (4294967296 * r) = 4294967296 * r := by rw [wrapU]; omega
        have hw3 : IntKind.u64.wrap (4294967296 * r + d0) = 4294967296 * r + d0 := by rw [wrapU]; omega
        have hdone := fun h => Lib.hid (kdone0.out q r HQR.out HQQ.out h)
        by_cases hgt : 4294967296 * r + d0 < q * b
        · have hgt2 := Lib.hid hgt
          have hdn := Lib.hid (kdown0.out q r HQR.out HQQ.out (.inr hgt2.out))
          have hqp : 1 ≤ q := by have := hdn.out; have := hQ00; omega
          have e3 : IntKind.u64.wrap (q - 1) = q - 1 := by rw [wrapU]; omega
          have hqr2 : Hid ((q - 1) * a + (r + a) = R1) := Lib.hid (by rw [Int.sub_mul, Int.one_mul]; have := HQR.out; omega)
          by_cases hbr : 4294967296 ≤ r + a
          · go_wp2
            go_meet
            exact ⟨congrArg (Value.int IntKind.u64) (kbreak0.out (q - 1) (r + a) (by omega) hqr2.out hdn.out hbr), (by first | rfl | trivial)⟩
          · go_wp2
            refine ⟨⟨q - 1, r + a, rfl, rfl, (by first | rfl | trivial), hqr2.out, hdn.out, by omega, by omega⟩, ?_⟩
            simp [intOf]
            omega
        · go_wp2
          go_meet
          exact ⟨congrArg (Value.int IntKind.u64) (hdone (by omega)).out, (by first | rfl | trivial)⟩
  case rest =>
  obtain ⟨rfl, rfl⟩ := hcut
  go_wp2
  (try simp only [Exit.inBlock, Exit.then])
  exact bodyPost_ret (by rw [results_tmp2 rfl]; go_simp) rfl ⟨rfl, Below.refl _ _⟩
theorem div64_any (hi lo y : Int) (w : World) (k0 : 0 ≤ hi) (k1 : hi < y) (l0 : 0 ≤ lo) (l1 : lo ≤ 18446744073709551615) (y1 : y ≤ 18446744073709551615) :
    Calls Try.prog 97 #[.int .u64 hi, .int .u64 lo, .int .u64 y] w fun e w' => e = .returned (.tuple #[.int .u64 ((hi * 18446744073709551616 + lo) / y), .int .u64 ((hi * 18446744073709551616 + lo) % y)]) ∧ Below w.heap.size w w' := by
  by_cases h : hi = 0
  · subst h
    have := div0_any lo y w l0 l1 (by omega) y1
    rwa [Int.zero_mul, Int.zero_add]
  · exact div64_hi hi lo y w (by omega) k1 l0 l1 y1
/-- What divide tells. -/
def Div (n d : Int) (w : World) : Prop := Calls Try.prog 89 #[.agg #[.int .u64 (n / 18446744073709551616), .int .u64 (n % 18446744073709551616)], .agg #[.int .u64 (d / 18446744073709551616), .int .u64 (d % 18446744073709551616)]] w fun e w' => e = .returned (.tuple #[.agg #[.int .u64 ((n / d) / 18446744073709551616), .int .u64 ((n / d) % 18446744073709551616)], .agg #[.int .u64 ((n % d) / 18446744073709551616), .int .u64 ((n % d) % 18446744073709551616)]]) ∧ Below w.heap.size w w'
theorem two_steps (a1 a2 d : Int) (h1 : 0 ≤ a1) (h2 : 0 ≤ a2) (h3 : a2 < 18446744073709551616) (d0 : 1 ≤ d) :
    (a1 * 18446744073709551616 + a2) / d / 18446744073709551616 = a1 / d ∧ (a1 * 18446744073709551616 + a2) / d % 18446744073709551616 = (a1 % d * 18446744073709551616 + a2) / d ∧ (a1 * 18446744073709551616 + a2) % d = (a1 % d * 18446744073709551616 + a2) % d := by
  have e1 := Int.mul_ediv_add_emod a1 d
  have r0 : 0 ≤ a1 % d := Int.emod_nonneg _ (by omega)
  have r1 : a1 % d < d := Int.emod_lt_of_pos _ (by omega)
  obtain ⟨Q1, hQ1⟩ : ∃ q, a1 / d = q := ⟨_, rfl⟩
  obtain ⟨R1, hR1⟩ : ∃ q, a1 % d = q := ⟨_, rfl⟩
  rw [hQ1, hR1] at e1
  rw [hR1] at r0 r1
  rw [hQ1, hR1]
  have e0 := Int.mul_ediv_add_emod (R1 * 18446744073709551616 + a2) d
  have s0 : 0 ≤ (R1 * 18446744073709551616 + a2) % d := Int.emod_nonneg _ (by omega)
  have s1 : (R1 * 18446744073709551616 + a2) % d < d := Int.emod_lt_of_pos _ (by omega)
  have q1 : (R1 * 18446744073709551616 + a2) / d < 18446744073709551616 := Int.ediv_lt_of_lt_mul (by omega) (by omega)
  have q0 : 0 ≤ (R1 * 18446744073709551616 + a2) / d := Int.ediv_nonneg (by omega) (by omega)
  obtain ⟨Q0, hQ0⟩ : ∃ q, (R1 * 18446744073709551616 + a2) / d = q := ⟨_, rfl⟩
  obtain ⟨R0, hR0⟩ : ∃ q, (R1 * 18446744073709551616 + a2) % d = q := ⟨_, rfl⟩
  rw [hQ0, hR0] at e0
  rw [hQ0] at q0 q1
  rw [hR0] at s0 s1
  rw [hQ0, hR0]
  obtain ⟨hq, hr⟩ := norm_told (a1 * 18446744073709551616 + a2) d 1 (Q1 * 18446744073709551616 + Q0) R0 (by omega) (by rw [Int.mul_one, Int.mul_one, Int.add_mul, Int.mul_right_comm, Int.mul_comm Q1 d, Int.mul_comm Q0 d]; omega) s0 (by omega)
  rw [Int.ediv_one] at hr
  rw [← hq, ← hr]
  exact ⟨by omega, by omega, rfl⟩
set_option maxHeartbeats 1000000 in
theorem divide_lo (n d : Int) (w : World) (n0 : 0 ≤ n) (n1 : n < 340282366920938463463374607431768211456) (d0 : 1 ≤ d) (d1 : d < 18446744073709551616) : Div n d w := by
  unfold Div
  obtain ⟨a1, ha1⟩ : ∃ q, n / 18446744073709551616 = q := ⟨_, rfl⟩
  obtain ⟨a2, ha2⟩ : ∃ q, n % 18446744073709551616 = q := ⟨_, rfl⟩
  obtain ⟨f1, f2, f3⟩ := two_steps a1 a2 d (by omega) (by omega) (by omega) d0
  have hn : n = a1 * 18446744073709551616 + a2 := by omega
  rw [← hn] at f1 f2 f3
  have g1 : d / 18446744073709551616 = 0 := by omega
  have g2 : d % 18446744073709551616 = d := by omega
  have r0 : 0 ≤ a1 % d := Int.emod_nonneg _ (by omega)
  have r1 : a1 % d < d := Int.emod_lt_of_pos _ (by omega)
  have s0 : 0 ≤ n % d := Int.emod_nonneg _ (by omega)
  have s1 : n % d < d := Int.emod_lt_of_pos _ (by omega)
  have hd1 := fun w => Lib.hid (div64_any 0 a1 d w (by omega) (by omega) (by omega) (by omega) (by omega))
  have hd2 := fun w => Lib.hid (div64_any (a1 % d) a2 d w r0 r1 (by omega) (by omega) (by omega))
  rw [Int.zero_mul, Int.zero_add] at hd1
  rw [← f2, ← f3] at hd2
  rw [f1]
  have g3 : n % d / 18446744073709551616 = 0 := by omega
  have g4 : n % d % 18446744073709551616 = n % d := by omega
  rw [g1, g2, g3, g4, ha1, ha2]
  obtain ⟨Q1, hQ1⟩ : ∃ y, a1 / d = y := ⟨_, rfl⟩
  obtain ⟨R1, hR1⟩ : ∃ y, a1 % d = y := ⟨_, rfl⟩
  obtain ⟨Q0, hQ0⟩ : ∃ y, n / d % 18446744073709551616 = y := ⟨_, rfl⟩
  obtain ⟨R0, hR0⟩ : ∃ y, n % d = y := ⟨_, rfl⟩
  rw [hQ1, hR1] at hd1
  rw [hR1, hQ0, hR0] at hd2
  rw [hQ1, hQ0, hR0]
  clear f1 f2 f3 hn g1 g2 g3 g4 r0 r1 s0 s1 ha1 ha2 hQ1 hR1 hQ0 hR0
  have M1 := True.intro
  go_enter Try.func89, Try.ntmps89
  go_wp2
  go_step3
  go_wp2_with (first
    | (go_at_call 97; have hmk := M1; clear hmk M1; go_loud (refine (hd1 _).out.mono ?_; rintro e w1 ⟨rfl, hb⟩; have HB1 := Lib.hid hb; have hs1 := hb.size; (try simp at hs1); have X0 := Box2.below (b := w.heap.size) (v0 := (.int .u64 a1)) (v1 := (.int .u64 a2)) (by constructor <;> go_simp) hb (by first | omega | (simp <;> omega)); have HX0 := Lib.hid X0; obtain ⟨ac0, ac1, af0, af1⟩ := X0; have X1 := Box2.below (b := w.heap.size + 1) (v0 := (.int .u64 0)) (v1 := (.int .u64 d)) (by constructor <;> go_simp) hb (by first | omega | (simp <;> omega)); have HX1 := Lib.hid X1; obtain ⟨bc0, bc1, bf0, bf1⟩ := X1; have X2 := Box2.below (b := w.heap.size + 1 + 1) (v0 := (.int .u64 0)) (v1 := (.int .u64 0)) (by constructor <;> go_simp) hb (by first | omega | (simp <;> omega)); have HX2 := Lib.hid X2; obtain ⟨cc0, cc1, cf0, cf1⟩ := X2; have X3 := Box2.below (b := w.heap.size + 1 + 1 + 1) (v0 := (.int .u64 0)) (v1 := (.int .u64 0)) (by constructor <;> go_simp) hb (by first | omega | (simp <;> omega)); have HX3 := Lib.hid X3; obtain ⟨dc0, dc1, df0, df1⟩ := X3; clear hb))
    | (go_at_call 97; go_loud (refine (hd2 _).out.mono ?_; rintro e w2 ⟨rfl, hb⟩; have HB2 := Lib.hid hb; have hs2 := hb.size; (try simp at hs2); have Y0 := Box2.below (b := w.heap.size) (v0 := (.int .u64 a1)) (v1 := (.int .u64 a2)) (by constructor <;> go_simp) hb (by first | omega | (simp <;> omega)); obtain ⟨mc0, mc1, mf0, mf1⟩ := Y0; have Y1 := Box2.below (b := w.heap.size + 1) (v0 := (.int .u64 0)) (v1 := (.int .u64 d)) (by constructor <;> go_simp) hb (by first | omega | (simp <;> omega)); obtain ⟨nc0, nc1, nf0, nf1⟩ := Y1; have Y2 := Box2.below (b := w.heap.size + 1 + 1) (v0 := (.int .u64 Q1)) (v1 := (.int .u64 0)) (by constructor <;> go_simp) hb (by first | omega | (simp <;> omega)); obtain ⟨pc0, pc1, pf0, pf1⟩ := Y2; have Y3 := Box2.below (b := w.heap.size + 1 + 1 + 1) (v0 := (.int .u64 0)) (v1 := (.int .u64 0)) (by constructor <;> go_simp) hb (by first | omega | (simp <;> omega)); obtain ⟨qc0, qc1, qf0, qf1⟩ := Y3; clear hb)))
  (try simp only [Exit.noGoto, Exit.inBlock, Exit.then])
  refine bodyPost_ret (v := .tuple #[.agg #[.int .u64 Q1, .int .u64 Q0], .agg #[.int .u64 0, .int .u64 R0]]) (by rw [results_cc rfl]; go_simp) rfl ⟨rfl, ?_⟩
  iterate 5 refine Below.setCell ?_ (by first | omega | (simp <;> omega)) _
  exact Below.trans (by (repeat' (first | exact Below.refl _ _ | refine Below.drew ?_ | refine Below.setCell ?_ (by first | omega | (simp <;> omega)) _ | refine Below.alloc ?_ (by first | omega | (simp <;> omega)) _))) (Below.trans (HB1.out.mono (by first | omega | (simp <;> omega))) (Below.trans (by (repeat' (first | exact Below.refl _ _ | refine Below.drew ?_ | refine Below.setCell ?_ (by first | omega | (simp <;> omega)) _ | refine Below.alloc ?_ (by first | omega | (simp <;> omega)) _))) (HB2.out.mono (by first | omega | (simp <;> omega)))))
theorem A_pos (h l : Int) (a : WR h l) (hz : ¬ (h = 0 ∧ l = 0)) : 1 ≤ A h l := by
  obtain ⟨_, _, _, _⟩ := a
  unfold A V
  split <;> omega
theorem round_wrap (h l h' l' H L Z : Int) (w : World) (hov : ∀ w, Calls Try.prog 63 #[.agg #[.int .i64 h, .int .u64 l], .agg #[.int .i64 h', .int .u64 l'], .func (.func 64) #[] #[]] w (RetWE w H L Z)) :
    Calls Try.prog 37 #[.agg #[.int .i64 h, .int .u64 l], .agg #[.int .i64 h', .int .u64 l']] w (RetWE w H L Z) := by
  have hov2 := fun w => Lib.hid (hov w)
  clear hov
  go_enter Try.func37, Try.ntmps37
  go_wp2_with (first
    | (go_at_call 63; go_loud (refine (hov2 _).out.mono ?_; rintro e w1 ⟨rfl, hb⟩; have HB1 := Lib.hid hb; have hs1 := hb.size; (try simp at hs1); have X := Box2.below (b := w.heap.size + 1 + 1) (v0 := .int .i64 0) (v1 := .int .u64 0) (by constructor <;> go_simp) hb (by first | omega | (simp <;> omega)); obtain ⟨xc0, xc1, xf0, xf1⟩ := X; clear hb)))
  (try simp only [Exit.noGoto, Exit.inBlock, Exit.then])
  refine bodyPost_ret (v := .tuple #[.agg #[.int .i64 H, .int .u64 L], .int .i64 Z]) (by rw [results_ct rfl]; go_simp) rfl ⟨rfl, ?_⟩
  iterate 2 refine Below.setCell ?_ (by first | omega | (simp <;> omega)) _
  exact Below.trans (by (repeat' (first | exact Below.refl _ _ | refine Below.drew ?_ | refine Below.setCell ?_ (by first | omega | (simp <;> omega)) _ | refine Below.alloc ?_ (by first | omega | (simp <;> omega)) _))) (HB1.out.mono (by first | omega | (simp <;> omega)))
/-- round: what is told, by whatever divide. -/
theorem round_of (h l h' l' : Int) (w : World) (a : WR h l) (b : WR h' l') (hz : ¬ (h' = 0 ∧ l' = 0)) (hd : ∀ w, Div (A h l) (A h' l') w) :
    (inR (roundI (V h l) (V h' l')) → Calls Try.prog 37 #[.agg #[.int .i64 h, .int .u64 l], .agg #[.int .i64 h', .int .u64 l']] w (RetWE w (roundI (V h l) (V h' l') / 18446744073709551616) (roundI (V h l) (V h' l') % 18446744073709551616) 0)) ∧
    (¬ inR (roundI (V h l) (V h' l')) → Calls Try.prog 37 #[.agg #[.int .i64 h, .int .u64 l], .agg #[.int .i64 h', .int .u64 l']] w (RetWE w 0 0 3)) := by
  have ba := A_bounds h l a
  have bb := A_bounds h' l' b
  have bp : 1 ≤ A h' l' := A_pos h' l' b hz
  have e1 : decide (V h l < 0) = decide (h < 0) := V_neg h l a
  have e2 : decide (V h' l' < 0) = decide (h' < 0) := V_neg h' l' b
  have q0 : 0 ≤ A h l / A h' l' := Int.ediv_nonneg ba.1 (by omega)
  have q1 : A h l / A h' l' ≤ 170141183460469231731687303715884105728 := Int.le_trans (Int.ediv_le_self _ ba.1) ba.2
  have r0 : 0 ≤ A h l % A h' l' := Int.emod_nonneg _ (by omega)
  have r1 : A h l % A h' l' < A h' l' := Int.emod_lt_of_pos _ (by omega)
  have eX : roundI (V h l) (V h' l') = if (decide (h < 0) != decide (h' < 0)) = true then -(if upR (A h l / A h' l') (A h l % A h' l') (A h' l') = true then A h l / A h' l' + 1 else A h l / A h' l') else (if upR (A h l / A h' l') (A h l % A h' l') (A h' l') = true then A h l / A h' l' + 1 else A h l / A h' l') := by
    unfold roundI
    rw [e1, e2]
    rfl
  have eS : (if upR (A h l / A h' l') (A h l % A h' l') (A h' l') = true then A h l / A h' l' + 1 else A h l / A h' l') % 340282366920938463463374607431768211456 = (if upR (A h l / A h' l') (A h l % A h' l') (A h' l') = true then A h l / A h' l' + 1 else A h l / A h' l') := by
    split <;> omega
  have s0 : 0 ≤ (if upR (A h l / A h' l') (A h l % A h' l') (A h' l') = true then A h l / A h' l' + 1 else A h l / A h' l') ∧ (if upR (A h l / A h' l') (A h l % A h' l') (A h' l') = true then A h l / A h' l' + 1 else A h l / A h' l') < 340282366920938463463374607431768211456 := by
    split <;> omega
  have hup : ∀ w, Calls Try.prog 64 #[.bool (decide (h < 0) != decide (h' < 0)), .agg #[.int .u64 ((A h l / A h' l') / 18446744073709551616), .int .u64 ((A h l / A h' l') % 18446744073709551616)], .agg #[.int .u64 ((A h l % A h' l') / 18446744073709551616), .int .u64 ((A h l % A h' l') % 18446744073709551616)], .agg #[.int .u64 (A h' l' / 18446744073709551616), .int .u64 (A h' l' % 18446744073709551616)]] w fun e w' => e = .returned (.bool (upR (A h l / A h' l') (A h l % A h' l') (A h' l'))) ∧ Below w.heap.size w w' :=
    fun w => upR_any _ _ _ _ w q0 (by omega) r0 (by omega) (by omega)
  constructor
  · intro hin
    refine round_wrap h l h' l' _ _ _ w (fun w => over_round h l h' l' _ _ (upR (A h l / A h' l') (A h l % A h' l') (A h' l')) _ _ _ w a b hz q0 (by omega) hd hup (fun w => ?_))
    rw [eS, eX]
    refine told_in _ _ w s0.1 ?_
    rw [eX] at hin
    revert hin
    generalize (if upR (A h l / A h' l') (A h l % A h' l') (A h' l') = true then A h l / A h' l' + 1 else A h l / A h' l') = s
    intro hin
    unfold inR at hin
    split
    · rename_i hn
      rw [if_pos hn] at hin
      omega
    · rename_i hn
      rw [if_neg hn] at hin
      omega
  · intro hin
    refine round_wrap h l h' l' _ _ _ w (fun w => over_round h l h' l' _ _ (upR (A h l / A h' l') (A h l % A h' l') (A h' l')) _ _ _ w a b hz q0 (by omega) hd hup (fun w => ?_))
    rw [eS]
    refine told_out _ _ w s0.1 s0.2 ?_
    rw [eX] at hin
    revert hin s0
    generalize (if upR (A h l / A h' l') (A h l % A h' l') (A h' l') = true then A h l / A h' l' + 1 else A h l / A h' l') = s
    intro s0 hin
    unfold inR at hin
    split
    · rename_i hn
      rw [if_pos hn] at hin
      omega
    · rename_i hn
      rw [if_neg hn] at hin
      omega
def digF (B : Nat) : Nat → Nat → List Int
  | 0, _ => []
  | f + 1, m => if m = 0 then [] else ((m % B : Nat) : Int) :: digF B f (m / B)
/-- The digits of a number, none of 0 on top. -/
def dig (B m : Nat) : List Int := digF B m m
/-- Digits, each in its range. -/
def Rng (B : Nat) (xs : List Int) : Prop := ∀ x ∈ xs, 0 ≤ x ∧ x < B
theorem Rng.getD {B : Nat} {xs : List Int} (h : Rng B xs) (hB : 1 ≤ B) (k : Nat) : 0 ≤ xs[k]?.getD 0 ∧ xs[k]?.getD 0 < B := by
  by_cases hk : k < xs.length
  · rw [List.getElem?_eq_getElem hk]
    exact h _ (List.getElem_mem hk)
  · rw [List.getElem?_eq_none (by omega)]
    simp only [Option.getD_none]
    omega
/-- A number in memory, by its limbs; by digits of 32 bits. -/
structure NAt (w : World) (hi : Nat) (a : Option Addr) (c m : Nat) : Prop where
  li : Ints .u64 w hi a (dig 18446744073709551616 m)
  c1 : (dig 18446744073709551616 m).length ≤ c
  c2 : c ≤ 9223372036854775807
structure HAt (w : World) (hi : Nat) (a : Option Addr) (c m : Nat) : Prop where
  li : Ints .u32 w hi a (dig 4294967296 m)
  c1 : (dig 4294967296 m).length ≤ c
  c2 : c ≤ 9223372036854775807
theorem NAt.below {w w' : World} {hi B : Nat} {a : Option Addr} {c m : Nat} (h : NAt w hi a c m) (hb : Below B w w') (hB : hi ≤ B) : NAt w' hi a c m := ⟨h.li.below hb hB, h.c1, h.c2⟩
theorem NAt.mono {w : World} {hi hi' : Nat} {a : Option Addr} {c m : Nat} (h : NAt w hi a c m) (hh : hi ≤ hi') : NAt w hi' a c m := ⟨h.li.mono hh, h.c1, h.c2⟩
theorem NAt.next {w w' : World} {a : Option Addr} {c m : Nat} (h : NAt w w.heap.size a c m) (hb : Below w.heap.size w w') : NAt w' w'.heap.size a c m := (h.below hb (Nat.le_refl _)).mono hb.size
theorem HAt.below {w w' : World} {hi B : Nat} {a : Option Addr} {c m : Nat} (h : HAt w hi a c m) (hb : Below B w w') (hB : hi ≤ B) : HAt w' hi a c m := ⟨h.li.below hb hB, h.c1, h.c2⟩
theorem HAt.mono {w : World} {hi hi' : Nat} {a : Option Addr} {c m : Nat} (h : HAt w hi a c m) (hh : hi ≤ hi') : HAt w hi' a c m := ⟨h.li.mono hh, h.c1, h.c2⟩
theorem HAt.next {w w' : World} {a : Option Addr} {c m : Nat} (h : HAt w w.heap.size a c m) (hb : Below w.heap.size w w') : HAt w' w'.heap.size a c m := (h.below hb (Nat.le_refl _)).mono hb.size
/-- A slice of memory that is no older than B. -/
def Fresh (B : Nat) (a : Option Addr) : Prop := ∀ x, a = some x → B ≤ x.block
theorem Fresh.mono {B B' : Nat} {a : Option Addr} (h : Fresh B a) (hb : B' ≤ B) : Fresh B' a := fun x hx => Nat.le_trans hb (h x hx)
structure NBox2 (w : World) (b : Nat) (v0 v1 : Value) : Prop where
  c0 : w.cell? ⟨b, 0, none⟩ = some v0
  c1 : w.cell? ⟨b, 1, none⟩ = some v1
  f0 : w.frozen? ⟨b, 0, none⟩ = false
  f1 : w.frozen? ⟨b, 1, none⟩ = false
theorem NBox2.below {w w' : World} {b n : Nat} {v0 v1 : Value} (h : NBox2 w b v0 v1) (hb : Below n w w') (hn : b < n) : NBox2 w' b v0 v1 :=
  ⟨(hb.cell (p := ⟨b, 0, none⟩) hn).trans h.c0, (hb.cell (p := ⟨b, 1, none⟩) hn).trans h.c1, (hb.frozen (p := ⟨b, 0, none⟩) hn).trans h.f0, (hb.frozen (p := ⟨b, 1, none⟩) hn).trans h.f1⟩
structure ZEnv (B : Nat) (w0 W : World) (L : List (Nat × Value × Value)) (N : List (Option Addr × Nat × Nat)) : Prop where
  hB : B ≤ W.heap.size
  bel : Below B w0 W
  boxes : ∀ p ∈ L, NBox2 W p.1 p.2.1 p.2.2 ∧ p.1 < W.heap.size
  nums : ∀ p ∈ N, NAt W W.heap.size p.1 p.2.1 p.2.2
end Go.Proofs.Ytmjcpgfekpedkaa
namespace Go.Proofs.Ytmjcpgfekpedkaa
open Go.RowKit Go.Rt
variable {B : Nat} {w0 W W' : World} {L : List (Nat × Value × Value)} {N : List (Option Addr × Nat × Nat)}
theorem ZEnv.next (h : ZEnv B w0 W L N) (hb : Below W.heap.size W W') : ZEnv B w0 W' L N :=
  ⟨Nat.le_trans h.hB hb.size, h.bel.trans (hb.mono h.hB), fun p hp => ⟨(h.boxes p hp).1.below hb (h.boxes p hp).2, Nat.lt_of_lt_of_le (h.boxes p hp).2 hb.size⟩, fun p hp => (h.nums p hp).next hb⟩
theorem ZEnv.alloc (h : ZEnv B w0 W L N) (o : Obj) : ZEnv B w0 (W.alloc o) L N := h.next ((Below.refl _ _).alloc (Nat.le_refl _) _)
theorem ZEnv.lt (h : ZEnv B w0 W L N) (i : Nat) {b : Nat} {v0 v1 : Value} (hi : L[i]? = some (b, v0, v1)) : b < W.heap.size := (h.boxes _ (List.mem_of_getElem? hi)).2
end Go.Proofs.Ytmjcpgfekpedkaa
namespace Go.Proofs.Ytmjcpgfekpedkaa
open Go.RowKit Go.Rt
structure NBox3 (w : World) (b : Nat) (v0 v1 v2 : Value) : Prop where
  c0 : w.cell? ⟨b, 0, none⟩ = some v0
  c1 : w.cell? ⟨b, 1, none⟩ = some v1
  c2 : w.cell? ⟨b, 2, none⟩ = some v2
  f0 : w.frozen? ⟨b, 0, none⟩ = false
  f1 : w.frozen? ⟨b, 1, none⟩ = false
  f2 : w.frozen? ⟨b, 2, none⟩ = false
theorem NBox3.below {w w' : World} {b n : Nat} {v0 v1 v2 : Value} (h : NBox3 w b v0 v1 v2) (hb : Below n w w') (hn : b < n) : NBox3 w' b v0 v1 v2 :=
  ⟨(hb.cell (p := ⟨b, 0, none⟩) hn).trans h.c0, (hb.cell (p := ⟨b, 1, none⟩) hn).trans h.c1, (hb.cell (p := ⟨b, 2, none⟩) hn).trans h.c2, (hb.frozen (p := ⟨b, 0, none⟩) hn).trans h.f0, (hb.frozen (p := ⟨b, 1, none⟩) hn).trans h.f1, (hb.frozen (p := ⟨b, 2, none⟩) hn).trans h.f2⟩
theorem absI_pos {d : Int} (hd : d ≠ 0) : 1 ≤ absI d := by unfold absI; split <;> omega
/-- By sizes: K times D is at most half of D away from N. -/
theorem half_size {N D q r K : Int} (hD : 1 ≤ D) (hN : N = q * D + r) (h0 : 0 ≤ r) (h1 : r < D) (hK : K = if upR q r D = true then q + 1 else q) : 2 * absI (N - K * D) ≤ D ∧ (2 * absI (N - K * D) = D → K % 2 = 0) := by
  by_cases hu : upR q r D = true
  · rw [if_pos hu] at hK
    have e : N - K * D = r - D := by rw [hN, hK, Int.add_mul]; omega
    rw [e]
    unfold upR at hu
    simp only [Bool.or_eq_true, Bool.and_eq_true, decide_eq_true_eq] at hu
    unfold absI
    split <;> omega
  · rw [if_neg hu] at hK
    have e : N - K * D = r := by rw [hN, hK]; omega
    rw [e]
    unfold upR at hu
    simp only [Bool.or_eq_true, Bool.and_eq_true, decide_eq_true_eq, not_or, not_and] at hu
    unfold absI
    split <;> omega
theorem round_half (x d : Int) (hd : d ≠ 0) : 2 * absI (x - roundI x d * d) ≤ absI d ∧ (2 * absI (x - roundI x d * d) = absI d → roundI x d % 2 = 0) := by
  have hD := absI_pos hd
  have hN := Int.mul_ediv_add_emod (absI x) (absI d)
  have h0 := Int.emod_nonneg (absI x) (show absI d ≠ 0 by omega)
  have h1 := Int.emod_lt_of_pos (absI x) (show 0 < absI d by omega)
  obtain ⟨K, hK⟩ : ∃ K, K = if upR (absI x / absI d) (absI x % absI d) (absI d) = true then absI x / absI d + 1 else absI x / absI d := ⟨_, rfl⟩
  have hs := half_size hD (q := absI x / absI d) (r := absI x % absI d) (N := absI x) (by rw [Int.mul_comm]; exact hN.symm) h0 h1 hK
  have hR : roundI x d = if (decide (x < 0) != decide (d < 0)) = true then -K else K := by unfold roundI; rw [← hK]
  obtain ⟨D, hDe⟩ : ∃ D, absI d = D := ⟨_, rfl⟩
  obtain ⟨N, hNe⟩ : ∃ N, absI x = N := ⟨_, rfl⟩
  rw [hDe, hNe] at hs
  rw [hDe]
  have key : absI (x - roundI x d * d) = absI (N - K * D) := by
    by_cases a : x < 0
    · have ex : x = -N := by rw [← hNe]; unfold absI; rw [if_pos a]; omega
      by_cases b : d < 0
      · have ed : d = -D := by rw [← hDe]; unfold absI; rw [if_pos b]; omega
        rw [hR, decide_eq_true a, decide_eq_true b, if_neg (by decide)]
        have e : x - K * d = -(N - K * D) := by rw [ex, ed, Int.mul_neg]; omega
        rw [e]
        unfold absI
        split <;> split <;> omega
      · have ed : d = D := by rw [← hDe]; unfold absI; rw [if_neg b]
        rw [hR, decide_eq_true a, decide_eq_false b, if_pos (by decide)]
        have e : x - -K * d = -(N - K * D) := by rw [ex, ed, Int.neg_mul]; omega
        rw [e]
        unfold absI
        split <;> split <;> omega
    · have ex : x = N := by rw [← hNe]; unfold absI; rw [if_neg a]
      by_cases b : d < 0
      · have ed : d = -D := by rw [← hDe]; unfold absI; rw [if_pos b]; omega
        rw [hR, decide_eq_false a, decide_eq_true b, if_pos (by decide)]
        have e : x - -K * d = N - K * D := by rw [ex, ed, Int.neg_mul_neg]
        rw [e]
      · have ed : d = D := by rw [← hDe]; unfold absI; rw [if_neg b]
        rw [hR, decide_eq_false a, decide_eq_false b, if_neg (by decide)]
        rw [← ex, ← ed]
  rw [key]
  refine ⟨hs.1, fun h => ?_⟩
  have := hs.2 h
  rw [hR]
  split <;> omega
end Go.Proofs.Ytmjcpgfekpedkaa
