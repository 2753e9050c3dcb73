/- Walks: wide numbers, as far as the tensors reach them. -/
import Derived.Test.YtddhhfhammmaaaaGreatRows
import Derived.Test.YtddhhfhammmaaaaGreatBase
import Derived.Laws.BitsAllLaws
import Derived.ChangeKeysEq
import Derived.Laws.Externs
import Derived.Shelf.Spec.BitsCarry
import Derived.BigRegion
import Derived.Sort.AtCall
import Derived.WalkMore
import Derived.Lib.BitFns
import Derived.Lib.Strings
import Derived.Lib.Slices
import Derived.Lib.Small
import Derived.Lib.Walk
import Derived.Laws.BitsLemmas
import Derived.Deep.RegionHeld3
import Derived.Deep.Cut
set_option linter.unusedVariables false
set_option maxRecDepth 100000
set_option linter.unusedSimpArgs false
namespace Go.Proofs.YtddhhfhammmaaaaGreat
open Go.RowKit Go.Rt

/-- The number that two words say. -/
def V (h l : Int) : Int := h * 18446744073709551616 + l
structure WR (h l : Int) : Prop where
  h0 : -9223372036854775808 ≤ h
  h1 : h ≤ 9223372036854775807
  l0 : 0 ≤ l
  l1 : l ≤ 18446744073709551615
def inR (s : Int) : Prop := -170141183460469231731687303715884105728 ≤ s ∧ s ≤ 170141183460469231731687303715884105727
theorem wrapI (y : Int) : IntKind.i64.wrap y = (y + 9223372036854775808) % 18446744073709551616 - 9223372036854775808 := by
  rw [IntKind.wrap_i64]
theorem wrapU (y : Int) : IntKind.u64.wrap y = y % 18446744073709551616 := by
  simp [IntKind.wrap, IntKind.signed, IntKind.bits]
theorem run_add (x y c : Int) (hx : 0 ≤ x) (hy : 0 ≤ y) (hc0 : 0 ≤ c) (hc : c ≤ 1) (w : World) :
    (callFunc 99 #[.int .u64 x, .int .u64 y, .int .u64 c]).run Tryz.prog w = .ok (.value (.tuple #[.int .u64 ((x + y + c) % 18446744073709551616), .int .u64 ((x + y + c) / 18446744073709551616)])) w := by
  rw [run_callFunc_extern Tryz.func99 (by kernel_rfl) (by kernel_rfl) (by kernel_rfl) (e := add64Entry) (by kernel_rfl), run_add64 x y c hx hy hc0 hc]
  rfl
theorem run_sub (x y b : Nat) (hb : b ≤ 1) (w : World) :
    (callFunc 107 #[.int .u64 x, .int .u64 y, .int .u64 b]).run Tryz.prog w =
      .ok (.value (.tuple #[.int .u64 (((x + 18446744073709551616 - y - b) % 18446744073709551616 : Nat) : Int), .int .u64 ((if x < y + b then 1 else 0 : Nat) : Int)])) w := by
  rw [run_callFunc_extern Tryz.func107 (by kernel_rfl) (by kernel_rfl) (by kernel_rfl) (e := sub64Entry) (by kernel_rfl), run_sub64 x y b hb]
  rfl
theorem run_subI (x y b : Int) (hx : 0 ≤ x) (hx1 : x ≤ 18446744073709551615) (hy : 0 ≤ y) (hy1 : y ≤ 18446744073709551615) (hb0 : 0 ≤ b) (hb : b ≤ 1) (w : World) :
    (callFunc 107 #[.int .u64 x, .int .u64 y, .int .u64 b]).run Tryz.prog w = .ok (.value (.tuple #[.int .u64 ((x - y - b) % 18446744073709551616), .int .u64 (-((x - y - b) / 18446744073709551616))])) w := by
  obtain ⟨X, rfl⟩ := Int.eq_ofNat_of_zero_le hx
  obtain ⟨Y, rfl⟩ := Int.eq_ofNat_of_zero_le hy
  obtain ⟨B, rfl⟩ := Int.eq_ofNat_of_zero_le hb0
  have := run_sub X Y B (by omega) w
  rw [this]
  have e1 : (((X + 18446744073709551616 - Y - B) % 18446744073709551616 : Nat) : Int) = ((X : Int) - Y - B) % 18446744073709551616 := by omega
  have e2 : ((if X < Y + B then 1 else 0 : Nat) : Int) = -(((X : Int) - Y - B) / 18446744073709551616) := by split <;> omega
  rw [e1, e2]
attribute [local go_sem] run_add run_subI

def RetW (w : World) (h l : Int) (e : Ending) (w' : World) : Prop := e = .returned (.agg #[.int .i64 h, .int .u64 l]) ∧ Below w.heap.size w w'
def RetWE (w : World) (h l z : Int) (e : Ending) (w' : World) : Prop := e = .returned (.tuple #[.agg #[.int .i64 h, .int .u64 l], .int .i64 z]) ∧ Below w.heap.size w w'
theorem results_c1 {fn : Func} {p : Tmp} {ty : TypeId} (h : fn.results = #[.cell p ty]) (tmps : Array Value) (P : Program) (w : World) :
    (results fn tmps).run P w = ((asAddr (tmps.getD p undef)).run P w).andThen fun a w₁ => (loadVar ty a).run P w₁ := by
  simp only [results, h]
  simp [Sem.run_bind, Result.andThen]
theorem results_ct {fn : Func} {p z : Tmp} {ty : TypeId} (h : fn.results = #[.cell p ty, .tmp z]) (tmps : Array Value) (P : Program) (w : World) :
    (results fn tmps).run P w = ((asAddr (tmps.getD p undef)).run P w).andThen fun a w₁ => ((loadVar ty a).run P w₁).andThen fun v w₂ => .ok (.tuple #[v, tmps.getD z undef]) w₂ := by
  simp only [results, h]
  simp [Sem.run_bind, Result.andThen]
theorem from_any (x : Int) (w : World) (h0 : -9223372036854775808 ≤ x) (h1 : x ≤ 9223372036854775807) :
    Calls Tryz.prog 93 #[.int .i64 x] w (RetW w (x / 9223372036854775808) (x % 18446744073709551616)) := by
  have hw : IntKind.u64.wrap x = x % 18446744073709551616 := wrapU x
  go_enter Tryz.func93, Tryz.ntmps93
  go_wp2
  exact bodyPost_ret (v := .agg #[.int .i64 (x / 9223372036854775808), .int .u64 (x % 18446744073709551616)]) (by rw [results_c1 rfl]; go_simp) rfl ⟨rfl, (by (repeat' (first | exact Below.refl _ _ | refine Below.drew ?_ | refine Below.setCell ?_ (by first | omega | (simp <;> omega)) _ | refine Below.alloc ?_ (by first | omega | (simp <;> omega)) _)))⟩
theorem add_in (h l h' l' : Int) (w : World) (a : WR h l) (b : WR h' l') (hin : inR (V h l + V h' l')) :
    Calls Tryz.prog 69 #[.agg #[.int .i64 h, .int .u64 l], .agg #[.int .i64 h', .int .u64 l']] w (RetWE w ((V h l + V h' l') / 18446744073709551616) ((V h l + V h' l') % 18446744073709551616) 0) := by
  obtain ⟨a0, a1, a2, a3⟩ := a
  obtain ⟨b0, b1, b2, b3⟩ := b
  unfold inR V at hin
  have hL : V h l + V h' l' = V h l + V h' l' := rfl
  obtain ⟨HI, hH⟩ : ∃ y, (V h l + V h' l') / 18446744073709551616 = y := ⟨_, rfl⟩
  obtain ⟨LO, hLO⟩ : ∃ y, (V h l + V h' l') % 18446744073709551616 = y := ⟨_, rfl⟩
  rw [hH, hLO]
  unfold V at hH hLO
  have e1 : RowKit.wrap64 (RowKit.wrap64 (h + h') + (l + l') / 18446744073709551616) = HI := by unfold RowKit.wrap64; omega
  have e2 : (l + l') % 18446744073709551616 = LO := by omega
  have e0 : h + h' + (l + l') / 18446744073709551616 = HI := by omega
  have es : h < 0 ∨ ¬ h < 0 := by omega
  have es' : h' < 0 ∨ ¬ h' < 0 := by omega
  have eh : HI < 0 ∨ ¬ HI < 0 := by omega
  have hk : (h < 0 ∧ h' < 0 → HI < 0) ∧ (¬ h < 0 ∧ ¬ h' < 0 → ¬ HI < 0) := by constructor <;> intro hh <;> omega
  clear hH hLO hin
  rcases es with es | es <;> rcases es' with es' | es' <;> rcases eh with eh | eh
  all_goals first
    | (exfalso; obtain ⟨k1, k2⟩ := hk; first | exact eh (k1 ⟨es, es'⟩) | exact k2 ⟨es, es'⟩ eh)
    | (clear hk
       go_enter Tryz.func69, Tryz.ntmps69
       go_wp2
       exact bodyPost_ret (v := .tuple #[.agg #[.int .i64 HI, .int .u64 LO], .int .i64 0]) (by rw [results_ct rfl]; go_simp <;> omega) rfl ⟨rfl, (by (repeat' (first | exact Below.refl _ _ | refine Below.drew ?_ | refine Below.setCell ?_ (by first | omega | (simp <;> omega)) _ | refine Below.alloc ?_ (by first | omega | (simp <;> omega)) _)))⟩)

theorem small_any (h l : Int) (w : World) (a : WR h l) :
    Calls Tryz.prog 90 #[.agg #[.int .i64 h, .int .u64 l]] w fun e w' => e = .returned (.tuple #[.int .i64 (if -9223372036854775808 ≤ V h l ∧ V h l ≤ 9223372036854775807 then V h l else 0), .bool (decide (-9223372036854775808 ≤ V h l ∧ V h l ≤ 9223372036854775807))]) ∧ Below w.heap.size w w' := by
  obtain ⟨a0, a1, a2, a3⟩ := a
  by_cases hr : -9223372036854775808 ≤ V h l ∧ V h l ≤ 9223372036854775807
  · rw [if_pos hr, decide_eq_true hr]
    unfold V at hr ⊢
    have e1 : RowKit.wrap64 l = h * 18446744073709551616 + l := by unfold RowKit.wrap64; omega
    have e2 : (h * 18446744073709551616 + l) / 9223372036854775808 = h := by omega
    go_enter Tryz.func90, Tryz.ntmps90
    go_wp2
    exact bodyPost_ret (by rw [results_tmp2 rfl]; go_simp <;> omega) rfl ⟨rfl, (by (repeat' (first | exact Below.refl _ _ | refine Below.drew ?_ | refine Below.setCell ?_ (by first | omega | (simp <;> omega)) _ | refine Below.alloc ?_ (by first | omega | (simp <;> omega)) _)))⟩
  · rw [if_neg hr, decide_eq_false hr]
    unfold V at hr
    obtain ⟨Z, hZ⟩ : ∃ y, RowKit.wrap64 l = y := ⟨_, rfl⟩
    have e2 : ¬ Z / 9223372036854775808 = h := by rw [← hZ]; unfold RowKit.wrap64; omega
    have e3 : (Z / 9223372036854775808 == h) = false := by simp; exact e2
    go_enter Tryz.func90, Tryz.ntmps90
    go_wp2
    exact bodyPost_ret (by rw [results_tmp2 rfl]; go_simp <;> omega) rfl ⟨rfl, (by (repeat' (first | exact Below.refl _ _ | refine Below.drew ?_ | refine Below.setCell ?_ (by first | omega | (simp <;> omega)) _ | refine Below.alloc ?_ (by first | omega | (simp <;> omega)) _)))⟩

theorem results_tc2 {fn : Func} {u p : Tmp} {ty : TypeId} (h : fn.results = #[.tmp u, .cell p ty]) (tmps : Array Value) (P : Program) (w : World) :
    (results fn tmps).run P w = ((asAddr (tmps.getD p undef)).run P w).andThen fun a w₁ => ((loadVar ty a).run P w₁).andThen fun v w₂ => .ok (.tuple #[tmps.getD u undef, v]) w₂ := by
  simp only [results, h]
  simp [Sem.run_bind, Result.andThen]
theorem results_cc {fn : Func} {p q : Tmp} {ty ty2 : TypeId} (h : fn.results = #[.cell p ty, .cell q ty2]) (tmps : Array Value) (P : Program) (w : World) :
    (results fn tmps).run P w = ((asAddr (tmps.getD p undef)).run P w).andThen fun a w₁ => ((loadVar ty a).run P w₁).andThen fun v w₂ => ((asAddr (tmps.getD q undef)).run P w₂).andThen fun a' w₃ => ((loadVar ty2 a').run P w₃).andThen fun v' w₄ => .ok (.tuple #[v, v']) w₄ := by
  simp only [results, h]
  simp [Sem.run_bind, Result.andThen]
theorem xor_max (l : Int) (l0 : 0 ≤ l) (l1 : l ≤ 18446744073709551615) : bits BinOp.xor IntKind.u64 IntKind.u64.max l = 18446744073709551615 - l := by
  obtain ⟨n, rfl⟩ := Int.eq_ofNat_of_zero_le l0
  show IntKind.u64.wrap ((BitVec.ofInt 64 IntKind.u64.max ^^^ BitVec.ofInt 64 (n : Int)).toNat : Int) = _
  have e : BitVec.ofInt 64 IntKind.u64.max = BitVec.allOnes 64 := by decide
  rw [e, BitVec.allOnes_xor, BitVec.toNat_not, ofInt_u64 n (by omega), wrapU]
  omega
/-- 2^128 less a size. -/
theorem minus_any (h l : Int) (w : World) (h0 : 0 ≤ h) (h1 : h ≤ 18446744073709551615) (l0 : 0 ≤ l) (l1 : l ≤ 18446744073709551615) :
    Calls Tryz.prog 106 #[.agg #[.int .u64 h, .int .u64 l]] w fun e w' => e = .returned (.agg #[.int .u64 ((340282366920938463463374607431768211456 - V h l) % 340282366920938463463374607431768211456 / 18446744073709551616), .int .u64 ((340282366920938463463374607431768211456 - V h l) % 340282366920938463463374607431768211456 % 18446744073709551616)]) ∧ Below w.heap.size w w' := by
  have x1 := xor_max l l0 l1
  have x2 := xor_max h h0 h1
  obtain ⟨HI, hH⟩ : ∃ y, (340282366920938463463374607431768211456 - V h l) % 340282366920938463463374607431768211456 / 18446744073709551616 = y := ⟨_, rfl⟩
  obtain ⟨LO, hLO⟩ : ∃ y, (340282366920938463463374607431768211456 - V h l) % 340282366920938463463374607431768211456 % 18446744073709551616 = y := ⟨_, rfl⟩
  rw [hH, hLO]
  unfold V at hH hLO
  have e1 : (18446744073709551615 - l + 1) % 18446744073709551616 = LO := by omega
  have e2 : IntKind.u64.wrap (18446744073709551615 - h + (18446744073709551615 - l + 1) / 18446744073709551616) = HI := by rw [wrapU]; omega
  have e3 : 0 ≤ 18446744073709551615 - l := by omega
  clear hH hLO
  go_enter Tryz.func106, Tryz.ntmps106
  go_wp2
  exact bodyPost_ret (v := .agg #[.int .u64 HI, .int .u64 LO]) (by rw [results_c1 rfl]; go_simp <;> omega) rfl ⟨rfl, (by (repeat' (first | exact Below.refl _ _ | refine Below.drew ?_ | refine Below.setCell ?_ (by first | omega | (simp <;> omega)) _ | refine Below.alloc ?_ (by first | omega | (simp <;> omega)) _)))⟩
def A (h l : Int) : Int := if V h l < 0 then -V h l else V h l
theorem A_bounds (h l : Int) (a : WR h l) : 0 ≤ A h l ∧ A h l ≤ 170141183460469231731687303715884105728 := by
  obtain ⟨a0, a1, a2, a3⟩ := a
  unfold A V
  split <;> omega
/-- The size, and whether it is below 0. -/
theorem of_any (h l : Int) (w : World) (a : WR h l) :
    Calls Tryz.prog 94 #[.agg #[.int .i64 h, .int .u64 l]] w fun e w' => e = .returned (.tuple #[.bool (decide (h < 0)), .agg #[.int .u64 (A h l / 18446744073709551616), .int .u64 (A h l % 18446744073709551616)]]) ∧ Below w.heap.size w w' := by
  obtain ⟨a0, a1, a2, a3⟩ := a
  by_cases hn : h < 0
  · rw [decide_eq_true hn]
    have hw : IntKind.u64.wrap h = h + 18446744073709551616 := by rw [wrapU]; omega
    have hA : A h l = -(h * 18446744073709551616 + l) := by unfold A V; rw [if_pos (by omega)]
    have hm := fun w => Lib.hid (minus_any (h + 18446744073709551616) l w (by omega) (by omega) a2 a3)
    have e0 : (340282366920938463463374607431768211456 - V (h + 18446744073709551616) l) % 340282366920938463463374607431768211456 = A h l := by rw [hA]; unfold V; omega
    rw [e0] at hm
    obtain ⟨HI, hH⟩ : ∃ y, A h l / 18446744073709551616 = y := ⟨_, rfl⟩
    obtain ⟨LO, hLO⟩ : ∃ y, A h l % 18446744073709551616 = y := ⟨_, rfl⟩
    rw [hH, hLO] at hm
    rw [hH, hLO]
    clear hH hLO e0 hA
    go_enter Tryz.func94, Tryz.ntmps94
    go_wp2_with (first
      | (go_at_call 106; go_loud (refine (hm _).out.mono ?_; rintro e w1 ⟨rfl, hb⟩; have HB := Lib.hid hb; have hs := hb.size; (try simp at hs); have j0 := (hb.cell (p := ⟨w.heap.size + 1, 0, none⟩) (by first | omega | (simp <;> omega))); have j1 := (hb.cell (p := ⟨w.heap.size + 1, 1, none⟩) (by first | omega | (simp <;> omega))); have g0 := (hb.frozen (p := ⟨w.heap.size + 1, 0, none⟩) (by first | omega | (simp <;> omega))); have g1 := (hb.frozen (p := ⟨w.heap.size + 1, 1, none⟩) (by first | omega | (simp <;> omega))); clear hb)))
    (try simp only [Exit.inBlock, Exit.then])
    refine bodyPost_ret (v := .tuple #[.bool true, .agg #[.int .u64 HI, .int .u64 LO]]) (by rw [results_tc2 rfl]; go_simp) rfl ⟨rfl, ?_⟩
    iterate 2 refine Below.setCell ?_ (by first | omega | (simp <;> omega)) _
    exact Below.trans (by (repeat' (first | exact Below.refl _ _ | refine Below.drew ?_ | refine Below.setCell ?_ (by first | omega | (simp <;> omega)) _ | refine Below.alloc ?_ (by first | omega | (simp <;> omega)) _))) (HB.out.mono (by first | omega | (simp <;> omega)))
  · rw [decide_eq_false hn]
    have hw : IntKind.u64.wrap h = h := by rw [wrapU]; omega
    have hA : A h l = h * 18446744073709551616 + l := by unfold A V; rw [if_neg (by omega)]
    have hH : A h l / 18446744073709551616 = h := by omega
    have hLO : A h l % 18446744073709551616 = l := by omega
    rw [hH, hLO]
    clear hH hLO hA
    go_enter Tryz.func94, Tryz.ntmps94
    go_wp2
    go_region
    go_wp2
    (try simp only [Exit.inBlock, Exit.then])
    exact bodyPost_ret (v := .tuple #[.bool false, .agg #[.int .u64 h, .int .u64 l]]) (by rw [results_tc2 rfl]; go_simp) rfl ⟨rfl, (by (repeat' (first | exact Below.refl _ _ | refine Below.drew ?_ | refine Below.setCell ?_ (by first | omega | (simp <;> omega)) _ | refine Below.alloc ?_ (by first | omega | (simp <;> omega)) _)))⟩
/-- A size with a sign, as a number. -/
theorem told_in (neg : Bool) (n : Int) (w : World) (n0 : 0 ≤ n) (hn : if neg = true then n ≤ 170141183460469231731687303715884105728 else n < 170141183460469231731687303715884105728) :
    Calls Tryz.prog 98 #[.bool neg, .agg #[.int .u64 (n / 18446744073709551616), .int .u64 (n % 18446744073709551616)]] w (RetWE w ((if neg = true then -n else n) / 18446744073709551616) ((if neg = true then -n else n) % 18446744073709551616) 0) := by
  have hHb : 0 ≤ n / 18446744073709551616 ∧ n / 18446744073709551616 ≤ 9223372036854775808 := by split at hn <;> omega
  have hLb : 0 ≤ n % 18446744073709551616 ∧ n % 18446744073709551616 ≤ 18446744073709551615 := by omega
  have hm := fun w => Lib.hid (minus_any (n / 18446744073709551616) (n % 18446744073709551616) w hHb.1 (by omega) hLb.1 hLb.2)
  have e0 : V (n / 18446744073709551616) (n % 18446744073709551616) = n := by unfold V; omega
  rw [e0] at hm
  cases neg with
  | false =>
    simp only [Bool.false_eq_true, if_false] at hn ⊢
    obtain ⟨HI, hH⟩ : ∃ y, n / 18446744073709551616 = y := ⟨_, rfl⟩
    obtain ⟨LO, hLO⟩ : ∃ y, n % 18446744073709551616 = y := ⟨_, rfl⟩
    rw [hH, hLO]
    have e1 : (HI / 9223372036854775808 == 1) = false := by simp; omega
    have e2 : RowKit.wrap64 HI = HI := by unfold RowKit.wrap64; omega
    have e3 : 0 ≤ HI := by omega
    have e5 : HI ≤ 9223372036854775807 := by omega
    have e4 : IntKind.i64.wrap HI = HI := by rw [IntKind.wrap_i64]; omega
    clear hH hLO hHb hLb hm e0
    go_enter Tryz.func98, Tryz.ntmps98
    go_wp2
    exact bodyPost_ret (v := .tuple #[.agg #[.int .i64 HI, .int .u64 LO], .int .i64 0]) (by rw [results_ct rfl]; go_simp) rfl ⟨rfl, (by (repeat' (first | exact Below.refl _ _ | refine Below.drew ?_ | refine Below.setCell ?_ (by first | omega | (simp <;> omega)) _ | refine Below.alloc ?_ (by first | omega | (simp <;> omega)) _)))⟩
  | true =>
    simp only [if_true] at hn ⊢
    obtain ⟨HI, hH⟩ : ∃ y, n / 18446744073709551616 = y := ⟨_, rfl⟩
    obtain ⟨LO, hLO⟩ : ∃ y, n % 18446744073709551616 = y := ⟨_, rfl⟩
    obtain ⟨HM, hHM⟩ : ∃ y, (340282366920938463463374607431768211456 - n) % 340282366920938463463374607431768211456 / 18446744073709551616 = y := ⟨_, rfl⟩
    obtain ⟨LM, hLM⟩ : ∃ y, (340282366920938463463374607431768211456 - n) % 340282366920938463463374607431768211456 % 18446744073709551616 = y := ⟨_, rfl⟩
    rw [hH, hLO, hHM, hLM] at hm
    rw [hH, hLO]
    have e6 : RowKit.wrap64 HM = -n / 18446744073709551616 := by unfold RowKit.wrap64; omega
    have e7 : LM = -n % 18446744073709551616 := by omega
    have e8 : 0 ≤ HM ∧ HM ≤ 18446744073709551615 := by omega
    obtain ⟨e8a, e8b⟩ := e8
    rw [← e7, ← e6]
    have e3 : 0 ≤ HI := by omega
    by_cases hT : n = 170141183460469231731687303715884105728
    · have e1 : (HI / 9223372036854775808 == 1) = true := by simp; omega
      have e5 : HI = 9223372036854775808 := by omega
      have e9 : LO = 0 := by omega
      clear hH hLO hHb hLb hHM hLM e0 e6 e7
      subst e5; subst e9
      go_enter Tryz.func98, Tryz.ntmps98
      go_wp2_with (first
        | (go_at_call 106; go_loud (refine (hm _).out.mono ?_; rintro e w1 ⟨rfl, hb⟩; have HB := Lib.hid hb; have hs := hb.size; (try simp at hs); have j00 := (hb.cell (p := ⟨w.heap.size, 0, none⟩) (by first | omega | (simp <;> omega))); have g00 := (hb.frozen (p := ⟨w.heap.size, 0, none⟩) (by first | omega | (simp <;> omega))); have j01 := (hb.cell (p := ⟨w.heap.size, 1, none⟩) (by first | omega | (simp <;> omega))); have g01 := (hb.frozen (p := ⟨w.heap.size, 1, none⟩) (by first | omega | (simp <;> omega))); have j10 := (hb.cell (p := ⟨w.heap.size + 1, 0, none⟩) (by first | omega | (simp <;> omega))); have g10 := (hb.frozen (p := ⟨w.heap.size + 1, 0, none⟩) (by first | omega | (simp <;> omega))); have j11 := (hb.cell (p := ⟨w.heap.size + 1, 1, none⟩) (by first | omega | (simp <;> omega))); have g11 := (hb.frozen (p := ⟨w.heap.size + 1, 1, none⟩) (by first | omega | (simp <;> omega))); clear hb)))
      refine bodyPost_ret (v := .tuple #[.agg #[.int .i64 (RowKit.wrap64 HM), .int .u64 LM], .int .i64 0]) (by rw [results_ct rfl]; go_simp) rfl ⟨rfl, ?_⟩
      iterate 4 refine Below.setCell ?_ (by first | omega | (simp <;> omega)) _
      exact Below.trans (by (repeat' (first | exact Below.refl _ _ | refine Below.drew ?_ | refine Below.setCell ?_ (by first | omega | (simp <;> omega)) _ | refine Below.alloc ?_ (by first | omega | (simp <;> omega)) _))) (HB.out.mono (by first | omega | (simp <;> omega)))
    · have e1 : (HI / 9223372036854775808 == 1) = false := by simp; omega
      clear hH hLO hHb hLb hHM hLM e0 e6 e7
      go_enter Tryz.func98, Tryz.ntmps98
      go_wp2_with (first
        | (go_at_call 106; go_loud (refine (hm _).out.mono ?_; rintro e w1 ⟨rfl, hb⟩; have HB := Lib.hid hb; have hs := hb.size; (try simp at hs); have j00 := (hb.cell (p := ⟨w.heap.size, 0, none⟩) (by first | omega | (simp <;> omega))); have g00 := (hb.frozen (p := ⟨w.heap.size, 0, none⟩) (by first | omega | (simp <;> omega))); have j01 := (hb.cell (p := ⟨w.heap.size, 1, none⟩) (by first | omega | (simp <;> omega))); have g01 := (hb.frozen (p := ⟨w.heap.size, 1, none⟩) (by first | omega | (simp <;> omega))); have j10 := (hb.cell (p := ⟨w.heap.size + 1, 0, none⟩) (by first | omega | (simp <;> omega))); have g10 := (hb.frozen (p := ⟨w.heap.size + 1, 0, none⟩) (by first | omega | (simp <;> omega))); have j11 := (hb.cell (p := ⟨w.heap.size + 1, 1, none⟩) (by first | omega | (simp <;> omega))); have g11 := (hb.frozen (p := ⟨w.heap.size + 1, 1, none⟩) (by first | omega | (simp <;> omega))); clear hb)))
      refine bodyPost_ret (v := .tuple #[.agg #[.int .i64 (RowKit.wrap64 HM), .int .u64 LM], .int .i64 0]) (by rw [results_ct rfl]; go_simp) rfl ⟨rfl, ?_⟩
      iterate 4 refine Below.setCell ?_ (by first | omega | (simp <;> omega)) _
      exact Below.trans (by (repeat' (first | exact Below.refl _ _ | refine Below.drew ?_ | refine Below.setCell ?_ (by first | omega | (simp <;> omega)) _ | refine Below.alloc ?_ (by first | omega | (simp <;> omega)) _))) (HB.out.mono (by first | omega | (simp <;> omega)))
theorem told_out (neg : Bool) (n : Int) (w : World) (n0 : 0 ≤ n) (n1 : n < 340282366920938463463374607431768211456) (hn : if neg = true then 170141183460469231731687303715884105728 < n else 170141183460469231731687303715884105728 ≤ n) :
    Calls Tryz.prog 98 #[.bool neg, .agg #[.int .u64 (n / 18446744073709551616), .int .u64 (n % 18446744073709551616)]] w (RetWE w 0 0 3) := by
  obtain ⟨HI, hH⟩ : ∃ y, n / 18446744073709551616 = y := ⟨_, rfl⟩
  obtain ⟨LO, hLO⟩ : ∃ y, n % 18446744073709551616 = y := ⟨_, rfl⟩
  rw [hH, hLO]
  have e1 : (HI / 9223372036854775808 == 1) = true := by simp; split at hn <;> omega
  have e3 : 0 ≤ HI := by omega
  cases neg with
  | false =>
    clear hH hLO
    go_enter Tryz.func98, Tryz.ntmps98
    go_wp2
    exact bodyPost_ret (v := .tuple #[.agg #[.int .i64 0, .int .u64 0], .int .i64 3]) (by rw [results_ct rfl]; go_simp) rfl ⟨rfl, (by (repeat' (first | exact Below.refl _ _ | refine Below.drew ?_ | refine Below.setCell ?_ (by first | omega | (simp <;> omega)) _ | refine Below.alloc ?_ (by first | omega | (simp <;> omega)) _)))⟩
  | true =>
    simp only [if_true] at hn
    by_cases h1 : HI = 9223372036854775808
    · have h2 : ¬ LO = 0 := by omega
      have h3 : (LO == 0) = false := by simp; exact h2
      clear hH hLO
      subst h1
      go_enter Tryz.func98, Tryz.ntmps98
      go_wp2
      exact bodyPost_ret (v := .tuple #[.agg #[.int .i64 0, .int .u64 0], .int .i64 3]) (by rw [results_ct rfl]; go_simp) rfl ⟨rfl, (by (repeat' (first | exact Below.refl _ _ | refine Below.drew ?_ | refine Below.setCell ?_ (by first | omega | (simp <;> omega)) _ | refine Below.alloc ?_ (by first | omega | (simp <;> omega)) _)))⟩
    · have h3 : (HI == 9223372036854775808) = false := by simp; exact h1
      clear hH hLO
      go_enter Tryz.func98, Tryz.ntmps98
      go_wp2
      exact bodyPost_ret (v := .tuple #[.agg #[.int .i64 0, .int .u64 0], .int .i64 3]) (by rw [results_ct rfl]; go_simp) rfl ⟨rfl, (by (repeat' (first | exact Below.refl _ _ | refine Below.drew ?_ | refine Below.setCell ?_ (by first | omega | (simp <;> omega)) _ | refine Below.alloc ?_ (by first | omega | (simp <;> omega)) _)))⟩
theorem less_any (h l h' l' : Int) (w : World) (l0 : 0 ≤ l) (l1 : l ≤ 18446744073709551615) (l0' : 0 ≤ l') (l1' : l' ≤ 18446744073709551615) :
    Calls Tryz.prog 96 #[.agg #[.int .u64 h, .int .u64 l], .agg #[.int .u64 h', .int .u64 l']] w fun e w' => e = .returned (.bool (decide (V h l < V h' l'))) ∧ Below w.heap.size w w' := by
  have e1 : V h l = h * 18446744073709551616 + l := rfl
  have e2 : V h' l' = h' * 18446744073709551616 + l' := rfl
  rcases Int.lt_trichotomy h h' with h1 | h1 | h1
  · have e : decide (V h l < V h' l') = true := decide_eq_true (by omega)
    rw [e]
    clear e e1 e2
    go_enter Tryz.func96, Tryz.ntmps96
    go_wp2
    go_ret
    exact ⟨rfl, (by (repeat' (first | exact Below.refl _ _ | refine Below.drew ?_ | refine Below.setCell ?_ (by first | omega | (simp <;> omega)) _ | refine Below.alloc ?_ (by first | omega | (simp <;> omega)) _)))⟩
  · subst h1
    have e : decide (V h l < V h l') = decide (l < l') := by rw [decide_eq_decide]; omega
    rw [e]
    clear e e1 e2
    go_enter Tryz.func96, Tryz.ntmps96
    go_wp2
    go_ret
    exact ⟨rfl, (by (repeat' (first | exact Below.refl _ _ | refine Below.drew ?_ | refine Below.setCell ?_ (by first | omega | (simp <;> omega)) _ | refine Below.alloc ?_ (by first | omega | (simp <;> omega)) _)))⟩
  · have e : decide (V h l < V h' l') = false := decide_eq_false (by omega)
    have h2 : ¬ h < h' := by omega
    have h3 : ¬ h = h' := by omega
    have h4 : (h == h') = false := by simp; exact h3
    rw [e]
    clear e e1 e2
    go_enter Tryz.func96, Tryz.ntmps96
    go_wp2
    go_ret
    exact ⟨rfl, (by (repeat' (first | exact Below.refl _ _ | refine Below.drew ?_ | refine Below.setCell ?_ (by first | omega | (simp <;> omega)) _ | refine Below.alloc ?_ (by first | omega | (simp <;> omega)) _)))⟩
theorem szsub_any (h l h' l' : Int) (w : World) (h0 : 0 ≤ h) (h1 : h ≤ 18446744073709551615) (l0 : 0 ≤ l) (l1 : l ≤ 18446744073709551615) (h0' : 0 ≤ h') (h1' : h' ≤ 18446744073709551615) (l0' : 0 ≤ l') (l1' : l' ≤ 18446744073709551615) :
    Calls Tryz.prog 95 #[.agg #[.int .u64 h, .int .u64 l], .agg #[.int .u64 h', .int .u64 l']] w fun e w' => e = .returned (.agg #[.int .u64 ((V h l - V h' l') % 340282366920938463463374607431768211456 / 18446744073709551616), .int .u64 ((V h l - V h' l') % 340282366920938463463374607431768211456 % 18446744073709551616)]) ∧ Below w.heap.size w w' := by
  obtain ⟨HI, hH⟩ : ∃ y, (V h l - V h' l') % 340282366920938463463374607431768211456 / 18446744073709551616 = y := ⟨_, rfl⟩
  obtain ⟨LO, hLO⟩ : ∃ y, (V h l - V h' l') % 340282366920938463463374607431768211456 % 18446744073709551616 = y := ⟨_, rfl⟩
  rw [hH, hLO]
  unfold V at hH hLO
  have e1 : (l - l') % 18446744073709551616 = LO := by omega
  obtain ⟨B, hB⟩ : ∃ y, -((l - l') / 18446744073709551616) = y := ⟨_, rfl⟩
  have e2 : (h - h' - B) % 18446744073709551616 = HI := by omega
  have e3 : 0 ≤ B := by omega
  have e4 : B ≤ 1 := by omega
  clear hH hLO
  go_enter Tryz.func95, Tryz.ntmps95
  go_wp2
  exact bodyPost_ret (v := .agg #[.int .u64 HI, .int .u64 LO]) (by rw [results_c1 rfl]; go_simp <;> omega) rfl ⟨rfl, (by (repeat' (first | exact Below.refl _ _ | refine Below.drew ?_ | refine Below.setCell ?_ (by first | omega | (simp <;> omega)) _ | refine Below.alloc ?_ (by first | omega | (simp <;> omega)) _)))⟩
theorem next_any (h l : Int) (w : World) (h0 : 0 ≤ h) (h1 : h ≤ 18446744073709551615) (l0 : 0 ≤ l) (l1 : l ≤ 18446744073709551615) :
    Calls Tryz.prog 97 #[.agg #[.int .u64 h, .int .u64 l]] w fun e w' => e = .returned (.agg #[.int .u64 ((V h l + 1) % 340282366920938463463374607431768211456 / 18446744073709551616), .int .u64 ((V h l + 1) % 340282366920938463463374607431768211456 % 18446744073709551616)]) ∧ Below w.heap.size w w' := by
  obtain ⟨HI, hH⟩ : ∃ y, (V h l + 1) % 340282366920938463463374607431768211456 / 18446744073709551616 = y := ⟨_, rfl⟩
  obtain ⟨LO, hLO⟩ : ∃ y, (V h l + 1) % 340282366920938463463374607431768211456 % 18446744073709551616 = y := ⟨_, rfl⟩
  rw [hH, hLO]
  unfold V at hH hLO
  have e1 : (l + 1) % 18446744073709551616 = LO := by omega
  have e2 : IntKind.u64.wrap (h + (l + 1) / 18446744073709551616) = HI := by rw [wrapU]; omega
  clear hH hLO
  go_enter Tryz.func97, Tryz.ntmps97
  go_wp2
  exact bodyPost_ret (v := .agg #[.int .u64 HI, .int .u64 LO]) (by rw [results_c1 rfl]; go_simp <;> omega) rfl ⟨rfl, (by (repeat' (first | exact Below.refl _ _ | refine Below.drew ?_ | refine Below.setCell ?_ (by first | omega | (simp <;> omega)) _ | refine Below.alloc ?_ (by first | omega | (simp <;> omega)) _)))⟩

/-- A variable of two cells. -/
structure Box2 (w : World) (b : Nat) (v0 v1 : Value) : Prop where
  c0 : w.cell? ⟨b, 0, none⟩ = some v0
  c1 : w.cell? ⟨b, 1, none⟩ = some v1
  f0 : w.frozen? ⟨b, 0, none⟩ = false
  f1 : w.frozen? ⟨b, 1, none⟩ = false
theorem Box2.below {w w' : World} {b n : Nat} {v0 v1 : Value} (h : Box2 w b v0 v1) (hb : Below n w w') (hn : b < n) : Box2 w' b v0 v1 :=
  ⟨(hb.cell (p := ⟨b, 0, none⟩) hn).trans h.c0, (hb.cell (p := ⟨b, 1, none⟩) hn).trans h.c1, (hb.frozen (p := ⟨b, 0, none⟩) hn).trans h.f0, (hb.frozen (p := ⟨b, 1, none⟩) hn).trans h.f1⟩

def upR (q r d : Int) : Bool := decide (d - r < r) || (decide (d - r = r) && decide (q % 2 = 1))

def absI (x : Int) : Int := if x < 0 then -x else x
theorem abs_any (x : Int) (w : World) (h0 : -9223372036854775808 ≤ x) (h1 : x ≤ 9223372036854775807) :
    Calls Tryz.prog 101 #[.int .i64 x] w fun e w' => e = .returned (.int .u64 (absI x)) ∧ Below w.heap.size w w' := by
  by_cases hx : x < 0
  · have e1 : IntKind.u64.wrap x = x + 18446744073709551616 := by rw [wrapU]; omega
    have e2 : IntKind.u64.wrap (-(x + 18446744073709551616)) = -x := by rw [wrapU]; omega
    have e3 : absI x = -x := by unfold absI; rw [if_pos hx]
    rw [e3]
    go_enter Tryz.func101, Tryz.ntmps101
    go_wp2
    go_ret
    exact ⟨ret_int (by omega), Below.refl _ _⟩
  · have e1 : IntKind.u64.wrap x = x := by rw [wrapU]; omega
    have e3 : absI x = x := by unfold absI; rw [if_neg hx]
    rw [e3]
    go_enter Tryz.func101, Tryz.ntmps101
    go_wp2
    go_ret
    exact ⟨ret_int (by omega), Below.refl _ _⟩
/-- The arithmetic of Mul64: halves of 32 bits. -/
theorem mul_halves (a b c d : Int) (ha : 0 ≤ a ∧ a ≤ 4294967295) (hb : 0 ≤ b ∧ b ≤ 4294967295) (hc : 0 ≤ c ∧ c ≤ 4294967295) (hd : 0 ≤ d ∧ d ≤ 4294967295) :
    (0 ≤ a * c ∧ a * c ≤ 18446744065119617025) ∧ (0 ≤ a * d ∧ a * d ≤ 18446744065119617025) ∧ (0 ≤ b * c ∧ b * c ≤ 18446744065119617025) ∧ (0 ≤ b * d ∧ b * d ≤ 18446744065119617025) := by
  have h : ∀ x y : Int, (0 ≤ x ∧ x ≤ 4294967295) → (0 ≤ y ∧ y ≤ 4294967295) → 0 ≤ x * y ∧ x * y ≤ 18446744065119617025 := fun x y hx hy =>
    ⟨Int.mul_nonneg hx.1 hy.1, Int.le_trans (Int.mul_le_mul hx.2 hy.2 hy.1 (by omega)) (by omega)⟩
  exact ⟨h a c ha hc, h a d ha hd, h b c hb hc, h b d hb hd⟩
theorem mul64_any (x y : Int) (w : World) (x0 : 0 ≤ x) (x1 : x ≤ 18446744073709551615) (y0 : 0 ≤ y) (y1 : y ≤ 18446744073709551615) :
    Calls Tryz.prog 100 #[.int .u64 x, .int .u64 y] w fun e w' => e = .returned (.tuple #[.int .u64 (x * y / 18446744073709551616), .int .u64 (x * y % 18446744073709551616)]) ∧ Below w.heap.size w w' := by
  have m1 : bits BinOp.and IntKind.u64 x 4294967295 = x % 4294967296 := bits_mask IntKind.u64 64 (by decide) (fun n h0 h1 => by rw [wrapU]; omega) 32 (by omega) x x0 (by omega)
  have m2 : bits BinOp.and IntKind.u64 y 4294967295 = y % 4294967296 := bits_mask IntKind.u64 64 (by decide) (fun n h0 h1 => by rw [wrapU]; omega) 32 (by omega) y y0 (by omega)
  obtain ⟨a, ha⟩ : ∃ q, x % 4294967296 = q := ⟨_, rfl⟩
  obtain ⟨b, hb⟩ : ∃ q, x / 4294967296 = q := ⟨_, rfl⟩
  obtain ⟨c, hc⟩ : ∃ q, y % 4294967296 = q := ⟨_, rfl⟩
  obtain ⟨d, hd⟩ : ∃ q, y / 4294967296 = q := ⟨_, rfl⟩
  rw [ha] at m1
  rw [hc] at m2
  have hxa : x = b * 4294967296 + a := by omega
  have hyc : y = d * 4294967296 + c := by omega
  have hxy : x * y = b * d * 18446744073709551616 + (a * d + b * c) * 4294967296 + a * c := by
    rw [hxa, hyc, Int.add_mul, Int.mul_add, Int.mul_add]
    have e1 : b * 4294967296 * (d * 4294967296) = b * d * 18446744073709551616 := by rw [Int.mul_assoc, Int.mul_left_comm 4294967296, ← Int.mul_assoc]; rfl
    have e2 : b * 4294967296 * c = b * c * 4294967296 := by rw [Int.mul_assoc, Int.mul_comm 4294967296, ← Int.mul_assoc]
    have e3 : a * (d * 4294967296) = a * d * 4294967296 := by rw [Int.mul_assoc]
    rw [e1, e2, e3]
    omega
  obtain ⟨⟨ac0, ac1⟩, ⟨ad0, ad1⟩, ⟨bc0, bc1⟩, ⟨bd0, bd1⟩⟩ := mul_halves a b c d (by omega) (by omega) (by omega) (by omega)
  obtain ⟨P, hP⟩ : ∃ q, x * y = q := ⟨_, rfl⟩
  rw [hP] at hxy
  obtain ⟨AC, hAC⟩ : ∃ q, a * c = q := ⟨_, rfl⟩
  obtain ⟨AD, hAD⟩ : ∃ q, a * d = q := ⟨_, rfl⟩
  obtain ⟨BC, hBC⟩ : ∃ q, b * c = q := ⟨_, rfl⟩
  obtain ⟨BD, hBD⟩ : ∃ q, b * d = q := ⟨_, rfl⟩
  rw [hAC] at hxy ac0 ac1
  rw [hAD] at hxy ad0 ad1
  rw [hBC] at hxy bc0 bc1
  rw [hBD] at hxy bd0 bd1
  rw [hP]
  have w1 : IntKind.u64.wrap AC = AC := by rw [wrapU]; omega
  have w2 : IntKind.u64.wrap BC = BC := by rw [wrapU]; omega
  have w3 : IntKind.u64.wrap AD = AD := by rw [wrapU]; omega
  have w4 : IntKind.u64.wrap BD = BD := by rw [wrapU]; omega
  obtain ⟨T, hT⟩ : ∃ q, BC + AC / 4294967296 = q := ⟨_, rfl⟩
  have w5 : IntKind.u64.wrap T = T := by rw [wrapU]; omega
  have t0 : 0 ≤ T := by omega
  have m3 : bits BinOp.and IntKind.u64 T 4294967295 = T % 4294967296 := bits_mask IntKind.u64 64 (by decide) (fun n h0 h1 => by rw [wrapU]; omega) 32 (by omega) T t0 (by omega)
  obtain ⟨W1, hW1⟩ : ∃ q, T % 4294967296 + AD = q := ⟨_, rfl⟩
  have w6 : IntKind.u64.wrap W1 = W1 := by rw [wrapU]; omega
  have v0 : 0 ≤ W1 := by omega
  have w7 : IntKind.u64.wrap (BD + T / 4294967296) = BD + T / 4294967296 := by rw [wrapU]; omega
  have w8 : IntKind.u64.wrap (BD + T / 4294967296 + W1 / 4294967296) = P / 18446744073709551616 := by rw [wrapU]; omega
  have w9 : IntKind.u64.wrap P = P % 18446744073709551616 := wrapU P
  clear ha hc hxa hyc hxy
  go_enter Tryz.func100, Tryz.ntmps100
  go_wp2
  exact bodyPost_ret (by rw [results_tmp2 rfl]; go_simp <;> omega) rfl ⟨rfl, Below.refl _ _⟩

theorem abs_mul (x y : Int) : (if (decide (x < 0) != decide (y < 0)) = true then -(absI x * absI y) else absI x * absI y) = x * y := by
  unfold absI
  by_cases hx : x < 0 <;> by_cases hy : y < 0 <;> simp [hx, hy, Int.neg_mul, Int.mul_neg]
theorem abs_bounds (x : Int) (h0 : -9223372036854775808 ≤ x) (h1 : x ≤ 9223372036854775807) : 0 ≤ absI x ∧ absI x ≤ 9223372036854775808 := by unfold absI; split <;> omega
theorem abs_mul_bounds (x y : Int) (h0 : -9223372036854775808 ≤ x) (h1 : x ≤ 9223372036854775807) (k0 : -9223372036854775808 ≤ y) (k1 : y ≤ 9223372036854775807) :
    0 ≤ absI x * absI y ∧ absI x * absI y ≤ 85070591730234615865843651857942052864 := by
  obtain ⟨a, b⟩ := abs_bounds x h0 h1
  obtain ⟨c, d⟩ := abs_bounds y k0 k1
  exact ⟨Int.mul_nonneg a c, Int.le_trans (Int.mul_le_mul b d c (by omega)) (by omega)⟩
theorem mul_inR (x y : Int) (h0 : -9223372036854775808 ≤ x) (h1 : x ≤ 9223372036854775807) (k0 : -9223372036854775808 ≤ y) (k1 : y ≤ 9223372036854775807) :
    -85070591730234615865843651857942052864 ≤ x * y ∧ x * y ≤ 85070591730234615865843651857942052864 := by
  have h := abs_mul_bounds x y h0 h1 k0 k1
  have e := abs_mul x y
  split at e <;> omega
theorem mul_any (x y : Int) (w : World) (h0 : -9223372036854775808 ≤ x) (h1 : x ≤ 9223372036854775807) (k0 : -9223372036854775808 ≤ y) (k1 : y ≤ 9223372036854775807) :
    Calls Tryz.prog 70 #[.int .i64 x, .int .i64 y] w (RetW w (x * y / 18446744073709551616) (x * y % 18446744073709551616)) := by
  have hb := abs_mul_bounds x y h0 h1 k0 k1
  have hx := abs_bounds x h0 h1
  have hy := abs_bounds y k0 k1
  have hax := fun w => Lib.hid (abs_any x w h0 h1)
  have hay := fun w => Lib.hid (abs_any y w k0 k1)
  have hm := fun w => Lib.hid (mul64_any (absI x) (absI y) w hx.1 (by omega) hy.1 (by omega))
  have ht := fun w => Lib.hid (told_in (decide (x < 0) != decide (y < 0)) (absI x * absI y) w hb.1 (by split <;> omega))
  rw [abs_mul] at ht
  obtain ⟨AX, hAX⟩ : ∃ q, absI x = q := ⟨_, rfl⟩
  obtain ⟨AY, hAY⟩ : ∃ q, absI y = q := ⟨_, rfl⟩
  rw [hAX, hAY] at hm ht
  rw [hAX] at hax
  rw [hAY] at hay
  obtain ⟨P1, hP1⟩ : ∃ q, AX * AY / 18446744073709551616 = q := ⟨_, rfl⟩
  obtain ⟨P2, hP2⟩ : ∃ q, AX * AY % 18446744073709551616 = q := ⟨_, rfl⟩
  obtain ⟨H, hH⟩ : ∃ q, x * y / 18446744073709551616 = q := ⟨_, rfl⟩
  obtain ⟨L, hL⟩ : ∃ q, x * y % 18446744073709551616 = q := ⟨_, rfl⟩
  rw [hP1, hP2] at hm ht
  rw [hH, hL] at ht
  rw [hH, hL]
  clear hb hx hy hAX hAY hP1 hP2 hH hL
  obtain ⟨NG, hNG⟩ : ∃ q, (decide (x < 0) != decide (y < 0)) = q := ⟨_, rfl⟩
  rw [hNG] at ht
  obtain ⟨n1, hn1⟩ : ∃ q, decide (x < 0) = q := ⟨_, rfl⟩
  obtain ⟨n2, hn2⟩ : ∃ q, decide (y < 0) = q := ⟨_, rfl⟩
  rw [hn1, hn2] at hNG
  have hNG2 : (!(n1 == n2)) = NG := hNG
  have M1 := True.intro
  go_enter Tryz.func70, Tryz.ntmps70
  go_wp2_with (first
    | (go_at_call 101; have hmk := M1; clear hmk M1; go_loud (refine (hax _).out.mono ?_; rintro e w1 ⟨rfl, hb⟩; have HB1 := Lib.hid hb; have hs1 := hb.size; (try simp at hs1); have X := Box2.below (b := w.heap.size) (v0 := .int .i64 0) (v1 := .int .u64 0) (by constructor <;> go_simp) hb (by first | omega | (simp <;> omega)); have HX1 := Lib.hid X; clear hb X))
    | (go_at_call 101; go_loud (refine (hay _).out.mono ?_; rintro e w2 ⟨rfl, hb⟩; have HB2 := Lib.hid hb; have hs2 := hb.size; (try simp at hs2); have HX2 := Lib.hid (HX1.out.below hb (by first | omega | (simp <;> omega))); clear hb))
    | (go_at_call 100; go_loud (refine (hm _).out.mono ?_; rintro e w3 ⟨rfl, hb⟩; have HB3 := Lib.hid hb; have hs3 := hb.size; (try simp at hs3); have HX3 := Lib.hid (HX2.out.below hb (by first | omega | (simp <;> omega))); clear hb))
    | (go_at_call 98; go_loud (refine (ht _).out.mono ?_; rintro e w4 ⟨rfl, hb⟩; have HB4 := Lib.hid hb; have hs4 := hb.size; (try simp at hs4); have X := HX3.out.below hb (by first | omega | (simp <;> omega)); obtain ⟨xc0, xc1, xf0, xf1⟩ := X; have hl : w.heap.size < w4.heap.size := (by omega); have hl2 : ¬ w.heap.size = w4.heap.size := (by omega); have hl3 : ¬ w4.heap.size = w.heap.size := (by omega); clear hb)))
  (try simp only [Exit.inBlock, Exit.then])
  refine bodyPost_ret (v := .agg #[.int .i64 H, .int .u64 L]) (by rw [results_c1 rfl]; go_simp) rfl ⟨rfl, ?_⟩
  have hT : Below w.heap.size w w4 := Below.trans (by (repeat' (first | exact Below.refl _ _ | refine Below.drew ?_ | refine Below.setCell ?_ (by first | omega | (simp <;> omega)) _ | refine Below.alloc ?_ (by first | omega | (simp <;> omega)) _))) (Below.trans (HB1.out.mono (B' := w.heap.size) (by first | omega | (simp <;> omega))) (Below.trans (HB2.out.mono (B' := w.heap.size) (by first | omega | (simp <;> omega))) (Below.trans (HB3.out.mono (B' := w.heap.size) (by first | omega | (simp <;> omega))) (HB4.out.mono (B' := w.heap.size) (by first | omega | (simp <;> omega))))))
  repeat' (first | exact hT | refine Below.setCell ?_ (by first | omega | (simp <;> omega)) _ | refine Below.alloc ?_ (by first | omega | (simp <;> omega)) _)

theorem bitLenAux_bounds : ∀ (f x : Nat), x < 2 ^ f → x < 2 ^ Lib.bitLenAux f x ∧ (x ≠ 0 → 1 ≤ Lib.bitLenAux f x ∧ 2 ^ (Lib.bitLenAux f x - 1) ≤ x)
  | 0, x, h => by
    have : x = 0 := by simpa using h
    subst this
    exact ⟨by simp [Lib.bitLenAux], fun h => absurd rfl h⟩
  | f + 1, x, h => by
    simp only [Lib.bitLenAux]
    split
    · rename_i h0
      subst h0
      exact ⟨by simp, fun h => absurd rfl h⟩
    · rename_i h0
      obtain ⟨i1, i2⟩ := bitLenAux_bounds f (x / 2) (by rw [Nat.pow_succ] at h; omega)
      refine ⟨by rw [Nat.add_comm, Nat.pow_succ]; omega, fun _ => ⟨by omega, ?_⟩⟩
      by_cases h1 : x / 2 = 0
      · have : x = 1 := by omega
        subst this
        have : Lib.bitLenAux f (1 / 2) = 0 := by cases f <;> simp [Lib.bitLenAux]
        rw [this]
        decide
      · obtain ⟨j1, j2⟩ := i2 h1
        have e : 1 + Lib.bitLenAux f (x / 2) - 1 = (Lib.bitLenAux f (x / 2) - 1) + 1 := by omega
        rw [e, Nat.pow_succ]
        omega
theorem bitLen_bounds (x : Nat) (h : x < 18446744073709551616) : x < 2 ^ Lib.bitLen x ∧ (x ≠ 0 → 1 ≤ Lib.bitLen x ∧ 2 ^ (Lib.bitLen x - 1) ≤ x) := bitLenAux_bounds 64 x h
theorem bitLen_64 (x : Int) (h0 : 0 ≤ x) (h1 : x ≤ 18446744073709551615) : Lib.bitLen x.toNat ≤ 64 := Lib.bitLen_le x.toNat 64 (by omega) (by omega)
theorem tab_at (i : Int) (h0 : 0 ≤ i) (h1 : i ≤ 255) (h : i.toNat < Lib.len8tab.size) : ((Lib.len8tab[i.toNat]'h).toNat : Int) = (Lib.bitLen i.toNat : Int) := by
  rw [← Lib.len8_of i h0 h1]
  simp only [Lib.len8, ByteArray.getElem?_lt' _ _ h, Option.getD_some]
set_option maxHeartbeats 4000000 in
set_option maxRecDepth 100000 in
theorem len64_any (x : Int) (w : World) (h0 : 0 ≤ x) (h1 : x ≤ 18446744073709551615) :
    Calls Tryz.prog 105 #[.int .u64 x] w fun e w' => e = .returned (.int .i64 (Lib.bitLen x.toNat)) ∧ w' = w := by
  go_enter Tryz.func105, Tryz.ntmps105
  go_wp2
  all_goals first
    | (exfalso; rename_i hbad; rw [Lib.len8tab_size] at hbad; omega)
    | (go_ret; refine ⟨congrArg Ending.returned (congrArg (Value.int IntKind.i64) ?_), rfl⟩)
  · rw [tab_at (x / 4294967296 / 65536 / 256) (by omega) (by omega)]
    have e : (x / 4294967296 / 65536 / 256).toNat = x.toNat / 72057594037927936 := by omega
    have l := Lib.bitLen_le8' (x / 4294967296 / 65536 / 256) (by omega) (by omega)
    have s := Lib.bitLen_shift56 x.toNat (by omega) (by omega)
    rw [e] at l ⊢
    rw [s]
    generalize Lib.bitLen (x.toNat / 72057594037927936) = B at l ⊢
    clear e s
    unfold RowKit.wrap64
    omega
  · rw [tab_at (x / 4294967296 / 65536) (by omega) (by omega)]
    have e : (x / 4294967296 / 65536).toNat = x.toNat / 281474976710656 := by omega
    have l := Lib.bitLen_le8' (x / 4294967296 / 65536) (by omega) (by omega)
    have s := Lib.bitLen_shift48 x.toNat (by omega) (by omega)
    rw [e] at l ⊢
    rw [s]
    generalize Lib.bitLen (x.toNat / 281474976710656) = B at l ⊢
    clear e s
    unfold RowKit.wrap64
    omega
  · rw [tab_at (x / 4294967296 / 256) (by omega) (by omega)]
    have e : (x / 4294967296 / 256).toNat = x.toNat / 1099511627776 := by omega
    have l := Lib.bitLen_le8' (x / 4294967296 / 256) (by omega) (by omega)
    have s := Lib.bitLen_shift40 x.toNat (by omega) (by omega)
    rw [e] at l ⊢
    rw [s]
    generalize Lib.bitLen (x.toNat / 1099511627776) = B at l ⊢
    clear e s
    unfold RowKit.wrap64
    omega
  · rw [tab_at (x / 4294967296) (by omega) (by omega)]
    have e : (x / 4294967296).toNat = x.toNat / 4294967296 := by omega
    have l := Lib.bitLen_le8' (x / 4294967296) (by omega) (by omega)
    have s := Lib.bitLen_shift32 x.toNat (by omega) (by omega)
    rw [e] at l ⊢
    rw [s]
    generalize Lib.bitLen (x.toNat / 4294967296) = B at l ⊢
    clear e s
    unfold RowKit.wrap64
    omega
  · rw [tab_at (x / 65536 / 256) (by omega) (by omega)]
    have e : (x / 65536 / 256).toNat = x.toNat / 16777216 := by omega
    have l := Lib.bitLen_le8' (x / 65536 / 256) (by omega) (by omega)
    have s := Lib.bitLen_shift24 x.toNat (by omega) (by omega)
    rw [e] at l ⊢
    rw [s]
    generalize Lib.bitLen (x.toNat / 16777216) = B at l ⊢
    clear e s
    unfold RowKit.wrap64
    omega
  · rw [tab_at (x / 65536) (by omega) (by omega)]
    have e : (x / 65536).toNat = x.toNat / 65536 := by omega
    have l := Lib.bitLen_le8' (x / 65536) (by omega) (by omega)
    have s := Lib.bitLen_shift16 x.toNat (by omega) (by omega)
    rw [e] at l ⊢
    rw [s]
    generalize Lib.bitLen (x.toNat / 65536) = B at l ⊢
    clear e s
    unfold RowKit.wrap64
    omega
  · rw [tab_at (x / 256) (by omega) (by omega)]
    have e : (x / 256).toNat = x.toNat / 256 := by omega
    have l := Lib.bitLen_le8' (x / 256) (by omega) (by omega)
    have s := Lib.bitLen_shift8 x.toNat (by omega) (by omega)
    rw [e] at l ⊢
    rw [s]
    generalize Lib.bitLen (x.toNat / 256) = B at l ⊢
    clear e s
    unfold RowKit.wrap64
    omega
  · rw [tab_at (x) (by omega) (by omega)]
    have e : (x).toNat = x.toNat := by omega
    have l := Lib.bitLen_le8' (x) (by omega) (by omega)
    rw [e] at l ⊢
    generalize Lib.bitLen x.toNat = B at l ⊢
    clear e
    unfold RowKit.wrap64
    omega

theorem castPow (k : Nat) : ((2 ^ k : Nat) : Int) = (2 : Int) ^ k := by simp

theorem V_neg (h l : Int) (a : WR h l) : decide (V h l < 0) = decide (h < 0) := by
  obtain ⟨_, _, _, _⟩ := a
  by_cases hn : h < 0
  · rw [decide_eq_true hn]; exact decide_eq_true (by unfold V; omega)
  · rw [decide_eq_false hn]; exact decide_eq_false (by unfold V; omega)

theorem pow_split (n : Nat) (h : n ≤ 64) : (2 : Int) ^ n * (2 : Int) ^ (64 - n) = 18446744073709551616 := by
  rw [← castPow, ← castPow, ← Int.natCast_mul, ← Nat.pow_add, Nat.add_sub_cancel' h]
  rfl
theorem pow_pos (n : Nat) : 1 ≤ (2 : Int) ^ n := by rw [← castPow]; have := Nat.two_pow_pos n; omega
/-- How many bits a size has. -/
def lenI (HI LO : Int) : Int := if HI = 0 then (Lib.bitLen LO.toNat : Int) else 64 + (Lib.bitLen HI.toNat : Int)
theorem len_pow (S L n : Nat) (h1 : S < 2 ^ L) (h2 : S ≠ 0 → 1 ≤ L ∧ 2 ^ (L - 1) ≤ S) (h3 : S = 0 → L = 0) (hn : n ≤ 128) : L + n ≤ 128 ↔ S * 2 ^ n < 340282366920938463463374607431768211456 := by
  have e128 : (340282366920938463463374607431768211456 : Nat) = 2 ^ 128 := rfl
  constructor
  · intro h
    have : S * 2 ^ n < 2 ^ L * 2 ^ n := Nat.mul_lt_mul_of_pos_right h1 (Nat.two_pow_pos n)
    rw [← Nat.pow_add] at this
    exact Nat.lt_of_lt_of_le this (by rw [e128]; exact Nat.pow_le_pow_right (by decide) h)
  · intro h
    by_cases h0 : S = 0
    · have := h3 h0; omega
    · obtain ⟨k1, k2⟩ := h2 h0
      rcases Nat.lt_or_ge 128 (L + n) with hc | hc
      · have : 2 ^ (L - 1) * 2 ^ n ≤ S * 2 ^ n := Nat.mul_le_mul_right _ k2
        rw [← Nat.pow_add] at this
        have h5 : 2 ^ 128 ≤ 2 ^ (L - 1 + n) := Nat.pow_le_pow_right (by decide) (by omega)
        rw [e128] at h
        omega
      · exact hc
theorem len_of (HI LO : Int) (n : Nat) (h0 : 0 ≤ HI) (h1 : HI ≤ 18446744073709551615) (l0 : 0 ≤ LO) (l1 : LO ≤ 18446744073709551615) (hn : n ≤ 128) :
    lenI HI LO + n ≤ 128 ↔ (HI * 18446744073709551616 + LO) * (2 : Int) ^ n < 340282366920938463463374607431768211456 := by
  obtain ⟨a, rfl⟩ := Int.eq_ofNat_of_zero_le h0
  obtain ⟨b, rfl⟩ := Int.eq_ofNat_of_zero_le l0
  obtain ⟨b1, b2⟩ := bitLen_bounds a (by omega)
  obtain ⟨c1, c2⟩ := bitLen_bounds b (by omega)
  have key : ∀ L : Nat, lenI a b = L → (a * 18446744073709551616 + b < 2 ^ L) → (a * 18446744073709551616 + b ≠ 0 → 1 ≤ L ∧ 2 ^ (L - 1) ≤ a * 18446744073709551616 + b) → (a * 18446744073709551616 + b = 0 → L = 0) →
      (lenI a b + n ≤ 128 ↔ ((a : Int) * 18446744073709551616 + b) * (2 : Int) ^ n < 340282366920938463463374607431768211456) := by
    intro L hL k1 k2 k3
    have := len_pow (a * 18446744073709551616 + b) L n k1 k2 k3 hn
    rw [hL, ← castPow]
    have e : ((a : Int) * 18446744073709551616 + b) * ((2 ^ n : Nat) : Int) = (((a * 18446744073709551616 + b) * 2 ^ n : Nat) : Int) := by
      rw [Int.natCast_mul (a * 18446744073709551616 + b) (2 ^ n)]
      rfl
    rw [e]
    generalize (a * 18446744073709551616 + b) * 2 ^ n = T at this
    omega
  by_cases ha : a = 0
  · subst ha
    have e : lenI ((0 : Nat) : Int) b = (Lib.bitLen b : Nat) := by simp [lenI]
    refine key _ e ?_ ?_ ?_
    · simpa using c1
    · intro h; simpa using c2 (by simpa using h)
    · intro h
      have : b = 0 := by simpa using h
      subst this
      decide
  · have e : lenI (a : Int) b = ((64 + Lib.bitLen a : Nat) : Int) := by
      unfold lenI
      rw [if_neg (by omega)]
      simp
    obtain ⟨d1, d2⟩ := b2 ha
    have p64 : (2 : Nat) ^ (64 + Lib.bitLen a) = 18446744073709551616 * 2 ^ Lib.bitLen a := by rw [Nat.pow_add]
    have q64 : (2 : Nat) ^ (64 + Lib.bitLen a - 1) = 18446744073709551616 * 2 ^ (Lib.bitLen a - 1) := by
      have : 64 + Lib.bitLen a - 1 = 64 + (Lib.bitLen a - 1) := by omega
      rw [this, Nat.pow_add]
    refine key _ e ?_ ?_ ?_
    · rw [p64]
      generalize 2 ^ Lib.bitLen a = X at b1
      omega
    · intro _
      rw [q64]
      generalize 2 ^ (Lib.bitLen a - 1) = X at d2
      exact ⟨by omega, by omega⟩
    · intro h; omega
/-- A size, shifted by less than a word. -/
theorem left_short (HI LO : Int) (n : Nat) (h0 : 0 ≤ HI) (l0 : 0 ≤ LO) (l1 : LO ≤ 18446744073709551615) (hn : n ≤ 63) (hlt : (HI * 18446744073709551616 + LO) * (2 : Int) ^ n < 340282366920938463463374607431768211456) :
    0 ≤ HI * 2 ^ n ∧ HI * 2 ^ n < 18446744073709551616 ∧ 0 ≤ LO / 2 ^ (64 - n) ∧ LO / 2 ^ (64 - n) < 2 ^ n ∧ HI * 2 ^ n + LO / 2 ^ (64 - n) < 18446744073709551616 ∧
      (HI * 18446744073709551616 + LO) * 2 ^ n / 18446744073709551616 = HI * 2 ^ n + LO / 2 ^ (64 - n) ∧ (HI * 18446744073709551616 + LO) * 2 ^ n % 18446744073709551616 = LO * 2 ^ n % 18446744073709551616 := by
  have pp := pow_split n (by omega)
  have hp := pow_pos n
  have hp' := pow_pos (64 - n)
  generalize (2 : Int) ^ n = p at *
  generalize (2 : Int) ^ (64 - n) = p' at *
  have hHp : 0 ≤ HI * p := Int.mul_nonneg h0 (by omega)
  have h3 : 0 ≤ LO / p' := Int.ediv_nonneg l0 (by omega)
  have h4 : LO / p' < p := Int.ediv_lt_of_lt_mul (by omega) (by rw [pp]; omega)
  have h5 := Int.mul_ediv_add_emod LO p'
  have h6 : 0 ≤ LO % p' := Int.emod_nonneg _ (by omega)
  have h7 : LO % p' < p' := Int.emod_lt_of_pos _ (by omega)
  have h8 : LO * p = LO / p' * 18446744073709551616 + LO % p' * p := by
    rw [← pp]
    conv => lhs; rw [← h5]
    rw [Int.add_mul, Int.mul_comm p' (LO / p'), Int.mul_assoc (LO / p') p' p, Int.mul_comm p' p]
  have h9 : 0 ≤ LO % p' * p := Int.mul_nonneg h6 (by omega)
  have ha : LO % p' * p < 18446744073709551616 := by
    rw [← pp, Int.mul_comm p p']
    exact Int.mul_lt_mul_of_pos_right h7 (by omega)
  have hX : (HI * 18446744073709551616 + LO) * p = (HI * p + LO / p') * 18446744073709551616 + LO % p' * p := by
    rw [Int.add_mul, h8, Int.mul_right_comm, Int.add_mul]
    omega
  rw [hX] at hlt ⊢
  have hlt2 : HI * p + LO / p' < 18446744073709551616 := by omega
  exact ⟨hHp, by omega, h3, h4, hlt2, by omega, by omega⟩
/-- A size of one word, shifted by more than a word. -/
theorem left_long (LO : Int) (n : Nat) (l0 : 0 ≤ LO) (hn : 64 ≤ n) (hlt : LO * (2 : Int) ^ n < 340282366920938463463374607431768211456) :
    0 ≤ LO * 2 ^ (n - 64) ∧ LO * 2 ^ (n - 64) < 18446744073709551616 ∧ LO * 2 ^ n / 18446744073709551616 = LO * 2 ^ (n - 64) ∧ LO * 2 ^ n % 18446744073709551616 = 0 := by
  have e : (2 : Int) ^ n = 2 ^ (n - 64) * 18446744073709551616 := by
    have : n = (n - 64) + 64 := by omega
    conv => lhs; rw [this, Int.pow_add]
    rfl
  have hp := pow_pos (n - 64)
  rw [e, ← Int.mul_assoc] at hlt ⊢
  have : 0 ≤ LO * 2 ^ (n - 64) := Int.mul_nonneg l0 (by omega)
  generalize LO * 2 ^ (n - 64) = T at *
  omega
/-- .. which is one of one word. -/
theorem left_one (HI LO : Int) (n : Nat) (h0 : 0 ≤ HI) (l0 : 0 ≤ LO) (hn : 64 ≤ n) (hlt : (HI * 18446744073709551616 + LO) * (2 : Int) ^ n < 340282366920938463463374607431768211456) : HI = 0 := by
  have e : (2 : Int) ^ n = 2 ^ (n - 64) * 18446744073709551616 := by
    have : n = (n - 64) + 64 := by omega
    conv => lhs; rw [this, Int.pow_add]
    rfl
  have hp := pow_pos (n - 64)
  rcases Int.lt_or_le 0 HI with h | h
  · have h1 := Int.mul_le_mul (show 18446744073709551616 ≤ HI * 18446744073709551616 + LO by omega) (show 18446744073709551616 ≤ (2 : Int) ^ n by rw [e]; omega) (by omega) (by omega)
    omega
  · omega

theorem shortTrans {w w1 w' w'' : World} {HI LO : Int} (h : Below w.heap.size w w' ∧ w1.heap.size < w'.heap.size ∧ w'.cell? ⟨w1.heap.size, 0, none⟩ = some (.int .u64 HI) ∧ w'.cell? ⟨w1.heap.size, 1, none⟩ = some (.int .u64 LO) ∧ Hid (∃ v0 v1, Box2 w' (w.heap.size + 1) v0 v1)) (hl : w.heap.size + 1 < w1.heap.size) (hb : Below w'.heap.size w' w'') :
    Below w.heap.size w w'' ∧ w1.heap.size < w''.heap.size ∧ w''.cell? ⟨w1.heap.size, 0, none⟩ = some (.int .u64 HI) ∧ w''.cell? ⟨w1.heap.size, 1, none⟩ = some (.int .u64 LO) ∧ Hid (∃ v0 v1, Box2 w'' (w.heap.size + 1) v0 v1) := by
  obtain ⟨h1, h2, h3, h4, h5⟩ := h
  obtain ⟨v0, v1, hB⟩ := h5.out
  exact ⟨h1.trans (hb.mono h1.size), Nat.lt_of_lt_of_le h2 hb.size, (hb.cell (p := ⟨w1.heap.size, 0, none⟩) h2).trans h3, (hb.cell (p := ⟨w1.heap.size, 1, none⟩) h2).trans h4, Lib.hid ⟨v0, v1, hB.below hb (Nat.lt_trans hl h2)⟩⟩
theorem shortB {w w1 w' : World} {HI LO : Int} (h : Below w.heap.size w w' ∧ w1.heap.size < w'.heap.size ∧ w'.cell? ⟨w1.heap.size, 0, none⟩ = some (.int .u64 HI) ∧ w'.cell? ⟨w1.heap.size, 1, none⟩ = some (.int .u64 LO) ∧ Hid (∃ v0 v1, Box2 w' (w.heap.size + 1) v0 v1)) : Below w.heap.size w w' := h.1
theorem shortSet {w w1 w' : World} {HI LO : Int} {x y : Value} (h : Below w.heap.size w w' ∧ w1.heap.size < w'.heap.size ∧ w'.cell? ⟨w1.heap.size, 0, none⟩ = some (.int .u64 HI) ∧ w'.cell? ⟨w1.heap.size, 1, none⟩ = some (.int .u64 LO) ∧ Hid (∃ v0 v1, Box2 w' (w.heap.size + 1) v0 v1)) (hl : w.heap.size + 1 < w1.heap.size) :
    Below w.heap.size w ((w'.setCell ⟨w.heap.size + 1, 0, none⟩ x).setCell ⟨w.heap.size + 1, 1, none⟩ y) ∧ w1.heap.size < ((w'.setCell ⟨w.heap.size + 1, 0, none⟩ x).setCell ⟨w.heap.size + 1, 1, none⟩ y).heap.size ∧ ((w'.setCell ⟨w.heap.size + 1, 0, none⟩ x).setCell ⟨w.heap.size + 1, 1, none⟩ y).cell? ⟨w1.heap.size, 0, none⟩ = some (.int .u64 HI) ∧ ((w'.setCell ⟨w.heap.size + 1, 0, none⟩ x).setCell ⟨w.heap.size + 1, 1, none⟩ y).cell? ⟨w1.heap.size, 1, none⟩ = some (.int .u64 LO) ∧ Hid (∃ v0 v1, Box2 ((w'.setCell ⟨w.heap.size + 1, 0, none⟩ x).setCell ⟨w.heap.size + 1, 1, none⟩ y) (w.heap.size + 1) v0 v1) := by
  obtain ⟨h1, h2, h3, h4, h5⟩ := h
  obtain ⟨v0, v1, hB⟩ := h5.out
  obtain ⟨c0, c1, f0, f1⟩ := hB
  have hne : ¬ w1.heap.size = w.heap.size + 1 := by omega
  refine ⟨(h1.setCell (by simp) _).setCell (by simp) _, by simpa using h2, ?_, ?_, Lib.hid ⟨x, y, ?_⟩⟩
  · go_simp
  · go_simp
  · constructor <;> go_simp
set_option maxHeartbeats 2000000 in
set_option maxRecDepth 100000 in
theorem left_of (h l : Int) (n : Nat) (hn : n ≤ 126) (a : WR h l) (H L Z : Int) (w : World)
    (htold : A h l * 2 ^ n < 340282366920938463463374607431768211456 → ∀ w, Calls Tryz.prog 98 #[.bool (decide (h < 0)), .agg #[.int .u64 ((A h l * 2 ^ n) / 18446744073709551616), .int .u64 ((A h l * 2 ^ n) % 18446744073709551616)]] w (RetWE w H L Z))
    (hout : ¬ A h l * 2 ^ n < 340282366920938463463374607431768211456 → H = 0 ∧ L = 0 ∧ Z = 3) :
    Calls Tryz.prog 92 #[.agg #[.int .i64 h, .int .u64 l], .int .i64 n] w (RetWE w H L Z) := by
  have ho := fun w => Lib.hid (of_any h l w a)
  have hA := A_bounds h l a
  obtain ⟨HI, hHI⟩ : ∃ q, A h l / 18446744073709551616 = q := ⟨_, rfl⟩
  obtain ⟨LO, hLO⟩ : ∃ q, A h l % 18446744073709551616 = q := ⟨_, rfl⟩
  have eA : A h l = HI * 18446744073709551616 + LO := by omega
  rw [hHI, hLO] at ho
  rw [eA] at htold hout
  have b0 : 0 ≤ HI := by omega
  have b1 : HI ≤ 18446744073709551615 := by omega
  have b2 : 0 ≤ LO := by omega
  have b3 : LO ≤ 18446744073709551615 := by omega
  have hlen := len_of HI LO n b0 b1 b2 b3 (by omega)
  have hl1 := fun w => Lib.hid (len64_any HI w b0 b1)
  have hl2 := fun w => Lib.hid (len64_any LO w b2 b3)
  have g1 := bitLen_64 HI b0 b1
  have g2 := bitLen_64 LO b2 b3
  have hsh := left_short HI LO n b0 b2 b3
  have hlg := left_long LO n b2
  have hon := left_one HI LO n b0 b2
  unfold lenI at hlen
  obtain ⟨BH, hBH⟩ : ∃ q, Lib.bitLen HI.toNat = q := ⟨_, rfl⟩
  obtain ⟨BL, hBL⟩ : ∃ q, Lib.bitLen LO.toNat = q := ⟨_, rfl⟩
  rw [hBH] at hl1 g1 hlen
  rw [hBL] at hl2 g2 hlen
  obtain ⟨NG, hNG⟩ : ∃ q, decide (h < 0) = q := ⟨_, rfl⟩
  rw [hNG] at ho htold
  clear hBH hBL hHI hLO eA hA hNG a
  have ew1 : RowKit.wrap64 (64 + (BH : Int)) = 64 + BH := by unfold RowKit.wrap64; omega
  have ew2 : RowKit.wrap64 (64 + (BH : Int) + n) = 64 + BH + n := by unfold RowKit.wrap64; omega
  have ew3 : RowKit.wrap64 ((BL : Int) + n) = BL + n := by unfold RowKit.wrap64; omega
  have M1 := True.intro
  have M2 := True.intro
  by_cases hz : HI = 0
  · rw [if_pos hz] at hlen
    have hz2 : (HI == 0) = true := by simp; exact hz
    by_cases hfit : (BL : Int) + n ≤ 128
    · have hlt := hlen.1 hfit
      replace htold := htold hlt
      by_cases h64 : 64 ≤ n
      · clear hsh hon hout hlen
        have := hlg h64 (by rw [hz, Int.zero_mul, Int.zero_add] at hlt; exact hlt)
        obtain ⟨k0, k1, k2, k3⟩ := this
        rw [hz, Int.zero_mul, Int.zero_add, k2, k3] at htold
        clear k2 k3 hlg hlt hz
        have HT := fun w => Lib.hid (htold w)
        clear htold
        have eT : IntKind.u64.wrap (LO * 2 ^ (n - 64)) = LO * 2 ^ (n - 64) := by rw [wrapU]; omega
        obtain ⟨T, hT⟩ : ∃ q, LO * 2 ^ (n - 64) = q := ⟨_, rfl⟩
        rw [hT] at HT eT k0 k1
        go_enter Tryz.func92, Tryz.ntmps92
        go_wp2_with (first | (go_at_call 94; go_loud (refine (ho _).out.mono ?_; rintro e w1 ⟨rfl, hb⟩; have HB1 := Lib.hid hb; have hs1 := hb.size; (try simp at hs1); have X0 := Box2.below (b := w.heap.size) (v0 := .int .i64 h) (v1 := .int .u64 l) (by constructor <;> go_simp) hb (by first | omega | (simp <;> omega)); have X1 := Box2.below (b := w.heap.size + 1) (v0 := .int .i64 0) (v1 := .int .u64 0) (by constructor <;> go_simp) hb (by first | omega | (simp <;> omega)); obtain ⟨xc0, xc1, xf0, xf1⟩ := X0; have HX1 := Lib.hid X1; obtain ⟨yc0, yc1, yf0, yf1⟩ := X1; have hl9 : w.heap.size + 1 < w1.heap.size := (by omega); clear hb)) | (go_at_call 105; have hmk := M1; clear hmk M1; refine (hl1 _).out.mono ?_; rintro e w' ⟨rfl, rfl⟩) | (go_at_call 105; have hmk := M2; clear hmk M2; refine (hl2 _).out.mono ?_; rintro e w' ⟨rfl, rfl⟩) | (go_at_call 98; go_loud (refine (HT _).out.mono ?_; rintro e w2 ⟨rfl, hb⟩; have HB2 := Lib.hid hb; have hs2 := hb.size; (try simp at hs2); have Z1 := (HX1.out.below (n := w1.heap.size) (by (repeat' (first | exact Below.refl _ _ | refine Below.drew ?_ | refine Below.setCell ?_ (by first | omega | (simp <;> omega)) _ | refine Below.alloc ?_ (by first | omega | (simp <;> omega)) _))) (by first | omega | (simp <;> omega))).below hb (by first | omega | (simp <;> omega)); obtain ⟨zc0, zc1, zf0, zf1⟩ := Z1; clear hb)))
        (try simp only [Exit.noGoto, Exit.inBlock, Exit.then])
        refine bodyPost_ret (v := .tuple #[.agg #[.int .i64 H, .int .u64 L], .int .i64 Z]) (by rw [results_ct rfl]; go_simp) rfl ⟨rfl, ?_⟩
        iterate 2 refine Below.setCell ?_ (by first | omega | (simp <;> omega)) _
        exact Below.trans (by (repeat' (first | exact Below.refl _ _ | refine Below.drew ?_ | refine Below.setCell ?_ (by first | omega | (simp <;> omega)) _ | refine Below.alloc ?_ (by first | omega | (simp <;> omega)) _))) (Below.trans (HB1.out.mono (by first | omega | (simp <;> omega))) (Below.trans (by (repeat' (first | exact Below.refl _ _ | refine Below.drew ?_ | refine Below.setCell ?_ (by first | omega | (simp <;> omega)) _ | refine Below.alloc ?_ (by first | omega | (simp <;> omega)) _))) (HB2.out.mono (by first | omega | (simp <;> omega)))))
      · have := hsh (by omega) hlt
        obtain ⟨k0, k1, k2, k3, k4, k5, k6⟩ := this
        rw [k5, k6] at htold
        have hn63 : n ≤ 63 := by omega
        clear hlg hon hout hlen k5 k6 hsh hlt hz
        have ew4 : RowKit.wrap64 (64 - (n : Int)) = 64 - n := by unfold RowKit.wrap64; omega
        have ew5 : IntKind.i64.wrap (64 - (n : Int)) = 64 - n := by rw [wrapI]; omega
        have HT := fun w => Lib.hid (htold w)
        clear htold
        have eHw : IntKind.u64.wrap (HI * 2 ^ n) = HI * 2 ^ n := by rw [wrapU]; omega
        have eOr : bits BinOp.or IntKind.u64 (HI * 2 ^ n) (LO / 2 ^ (64 - n)) = HI * 2 ^ n + LO / 2 ^ (64 - n) := bits_join IntKind.u64 64 (by decide) (fun n h0 h1 => by rw [wrapU]; omega) n _ _ k0 (Int.mul_emod_left _ _) (by omega) k2 k3 (by omega)
        have eLw : IntKind.u64.wrap (LO * 2 ^ n) = LO * 2 ^ n % 18446744073709551616 := by rw [wrapU]
        obtain ⟨T1, hT1⟩ : ∃ q, HI * 2 ^ n + LO / 2 ^ (64 - n) = q := ⟨_, rfl⟩
        obtain ⟨T2, hT2⟩ : ∃ q, LO * 2 ^ n % 18446744073709551616 = q := ⟨_, rfl⟩
        rw [hT1, hT2] at HT
        rw [hT1] at eOr
        rw [hT2] at eLw
        go_enter Tryz.func92, Tryz.ntmps92
        go_upto_region 11 with (first | (go_at_call 94; go_loud (refine (ho _).out.mono ?_; rintro e w1 ⟨rfl, hb⟩; have HB1 := Lib.hid hb; have hs1 := hb.size; (try simp at hs1); have X0 := Box2.below (b := w.heap.size) (v0 := .int .i64 h) (v1 := .int .u64 l) (by constructor <;> go_simp) hb (by first | omega | (simp <;> omega)); have X1 := Box2.below (b := w.heap.size + 1) (v0 := .int .i64 0) (v1 := .int .u64 0) (by constructor <;> go_simp) hb (by first | omega | (simp <;> omega)); obtain ⟨xc0, xc1, xf0, xf1⟩ := X0; have HX1 := Lib.hid X1; obtain ⟨yc0, yc1, yf0, yf1⟩ := X1; have hl9 : w.heap.size + 1 < w1.heap.size := (by omega); clear hb)) | (go_at_call 105; have hmk := M1; clear hmk M1; refine (hl1 _).out.mono ?_; rintro e w' ⟨rfl, rfl⟩) | (go_at_call 105; have hmk := M2; clear hmk M2; refine (hl2 _).out.mono ?_; rintro e w' ⟨rfl, rfl⟩))
        obtain ⟨Wb, hWb⟩ : ∃ Wb : World, Wb = w1.alloc (.cells #[.int .u64 HI, .int .u64 LO] 130) := ⟨_, rfl⟩
        have HS0 : Hid (Below w.heap.size w Wb ∧ w1.heap.size < Wb.heap.size ∧ Wb.cell? ⟨w1.heap.size, 0, none⟩ = some (.int .u64 HI) ∧ Wb.cell? ⟨w1.heap.size, 1, none⟩ = some (.int .u64 LO) ∧ Hid (∃ v0 v1, Box2 Wb (w.heap.size + 1) v0 v1)) := by
          rw [hWb]
          refine Lib.hid ⟨Below.trans (by (repeat' (first | exact Below.refl _ _ | refine Below.drew ?_ | refine Below.setCell ?_ (by first | omega | (simp <;> omega)) _ | refine Below.alloc ?_ (by first | omega | (simp <;> omega)) _))) (Below.trans (HB1.out.mono (by first | omega | (simp <;> omega))) (by (repeat' (first | exact Below.refl _ _ | refine Below.drew ?_ | refine Below.setCell ?_ (by first | omega | (simp <;> omega)) _ | refine Below.alloc ?_ (by first | omega | (simp <;> omega)) _)))), by simp, by simp [go_sem], by simp [go_sem], Lib.hid ⟨_, _, HX1.out.below (n := w1.heap.size) (by (repeat' (first | exact Below.refl _ _ | refine Below.drew ?_ | refine Below.setCell ?_ (by first | omega | (simp <;> omega)) _ | refine Below.alloc ?_ (by first | omega | (simp <;> omega)) _))) (by first | omega | (simp <;> omega))⟩⟩
        rw [← hWb]
        clear hWb xc0 xc1 xf0 xf1 yc0 yc1 yf0 yf1 HX1 HB1
        go_region_held3 (fun w' => Below w.heap.size w w' ∧ w1.heap.size < w'.heap.size ∧ w'.cell? ⟨w1.heap.size, 0, none⟩ = some (.int .u64 HI) ∧ w'.cell? ⟨w1.heap.size, 1, none⟩ = some (.int .u64 LO) ∧ Hid (∃ v0 v1, Box2 w' (w.heap.size + 1) v0 v1)) (first | assumption | exact shortTrans HS0.out hl9 (Below.drew (Below.refl _ _)) | exact shortTrans (by assumption) hl9 (by assumption) | exact shortSet (by assumption) hl9)
          (first | (go_at_call 98; refine (HT _).out.mono ?_; rintro e w2 ⟨rfl, hb⟩; have hS2 := shortTrans (by assumption) hl9 hb; obtain ⟨v0, v1, Z1⟩ := hS2.2.2.2.2.out; obtain ⟨zc0, zc1, zf0, zf1⟩ := Z1; clear hS2))
        all_goals
          go_wp2_with fail
          (try simp only [Exit.noGoto, Exit.inBlock, Exit.then])
          refine bodyPost_ret (v := .tuple #[.agg #[.int .i64 H, .int .u64 L], .int .i64 Z]) (by rw [results_ct rfl]; go_simp) rfl ⟨rfl, shortB (by assumption)⟩
    · obtain ⟨rfl, rfl, rfl⟩ := hout (fun hlt => hfit (hlen.2 hlt))
      have hfit2 : 128 < (BL : Int) + n := by omega
      clear hsh hlg hon hlen htold hout hfit hz
      go_enter Tryz.func92, Tryz.ntmps92
      go_wp2_with (first | (go_at_call 94; go_loud (refine (ho _).out.mono ?_; rintro e w1 ⟨rfl, hb⟩; have HB1 := Lib.hid hb; have hs1 := hb.size; (try simp at hs1); have X0 := Box2.below (b := w.heap.size) (v0 := .int .i64 h) (v1 := .int .u64 l) (by constructor <;> go_simp) hb (by first | omega | (simp <;> omega)); have X1 := Box2.below (b := w.heap.size + 1) (v0 := .int .i64 0) (v1 := .int .u64 0) (by constructor <;> go_simp) hb (by first | omega | (simp <;> omega)); obtain ⟨xc0, xc1, xf0, xf1⟩ := X0; have HX1 := Lib.hid X1; obtain ⟨yc0, yc1, yf0, yf1⟩ := X1; have hl9 : w.heap.size + 1 < w1.heap.size := (by omega); clear hb)) | (go_at_call 105; have hmk := M1; clear hmk M1; refine (hl1 _).out.mono ?_; rintro e w' ⟨rfl, rfl⟩) | (go_at_call 105; have hmk := M2; clear hmk M2; refine (hl2 _).out.mono ?_; rintro e w' ⟨rfl, rfl⟩))
      (try simp only [Exit.noGoto, Exit.inBlock, Exit.then])
      refine bodyPost_ret (v := .tuple #[.agg #[.int .i64 0, .int .u64 0], .int .i64 3]) (by rw [results_ct rfl]; go_simp) rfl ⟨rfl, ?_⟩
      refine Below.alloc ?_ (by first | omega | (simp <;> omega)) _
      iterate 2 refine Below.setCell ?_ (by first | omega | (simp <;> omega)) _
      exact Below.trans (by (repeat' (first | exact Below.refl _ _ | refine Below.drew ?_ | refine Below.setCell ?_ (by first | omega | (simp <;> omega)) _ | refine Below.alloc ?_ (by first | omega | (simp <;> omega)) _))) (HB1.out.mono (by first | omega | (simp <;> omega)))
  · rw [if_neg hz] at hlen
    have hz2 : (HI == 0) = false := by simp; exact hz
    by_cases hfit : 64 + (BH : Int) + n ≤ 128
    · have hlt := hlen.1 hfit
      replace htold := htold hlt
      have hn63 : n ≤ 63 := by
        rcases Nat.lt_or_ge 63 n with h1 | h1
        · exact absurd (hon h1 hlt) hz
        · exact h1
      have := hsh hn63 hlt
      obtain ⟨k0, k1, k2, k3, k4, k5, k6⟩ := this
      rw [k5, k6] at htold
      clear hlg hon hout hlen k5 k6 hsh hlt
      have ew4 : RowKit.wrap64 (64 - (n : Int)) = 64 - n := by unfold RowKit.wrap64; omega
      have ew5 : IntKind.i64.wrap (64 - (n : Int)) = 64 - n := by rw [wrapI]; omega
      have HT := fun w => Lib.hid (htold w)
      clear htold
      have eHw : IntKind.u64.wrap (HI * 2 ^ n) = HI * 2 ^ n := by rw [wrapU]; omega
      have eOr : bits BinOp.or IntKind.u64 (HI * 2 ^ n) (LO / 2 ^ (64 - n)) = HI * 2 ^ n + LO / 2 ^ (64 - n) := bits_join IntKind.u64 64 (by decide) (fun n h0 h1 => by rw [wrapU]; omega) n _ _ k0 (Int.mul_emod_left _ _) (by omega) k2 k3 (by omega)
      have eLw : IntKind.u64.wrap (LO * 2 ^ n) = LO * 2 ^ n % 18446744073709551616 := by rw [wrapU]
      obtain ⟨T1, hT1⟩ : ∃ q, HI * 2 ^ n + LO / 2 ^ (64 - n) = q := ⟨_, rfl⟩
      obtain ⟨T2, hT2⟩ : ∃ q, LO * 2 ^ n % 18446744073709551616 = q := ⟨_, rfl⟩
      rw [hT1, hT2] at HT
      rw [hT1] at eOr
      rw [hT2] at eLw
      go_enter Tryz.func92, Tryz.ntmps92
      go_upto_region 11 with (first | (go_at_call 94; go_loud (refine (ho _).out.mono ?_; rintro e w1 ⟨rfl, hb⟩; have HB1 := Lib.hid hb; have hs1 := hb.size; (try simp at hs1); have X0 := Box2.below (b := w.heap.size) (v0 := .int .i64 h) (v1 := .int .u64 l) (by constructor <;> go_simp) hb (by first | omega | (simp <;> omega)); have X1 := Box2.below (b := w.heap.size + 1) (v0 := .int .i64 0) (v1 := .int .u64 0) (by constructor <;> go_simp) hb (by first | omega | (simp <;> omega)); obtain ⟨xc0, xc1, xf0, xf1⟩ := X0; have HX1 := Lib.hid X1; obtain ⟨yc0, yc1, yf0, yf1⟩ := X1; have hl9 : w.heap.size + 1 < w1.heap.size := (by omega); clear hb)) | (go_at_call 105; have hmk := M1; clear hmk M1; refine (hl1 _).out.mono ?_; rintro e w' ⟨rfl, rfl⟩) | (go_at_call 105; have hmk := M2; clear hmk M2; refine (hl2 _).out.mono ?_; rintro e w' ⟨rfl, rfl⟩))
      obtain ⟨Wb, hWb⟩ : ∃ Wb : World, Wb = w1.alloc (.cells #[.int .u64 HI, .int .u64 LO] 130) := ⟨_, rfl⟩
      have HS0 : Hid (Below w.heap.size w Wb ∧ w1.heap.size < Wb.heap.size ∧ Wb.cell? ⟨w1.heap.size, 0, none⟩ = some (.int .u64 HI) ∧ Wb.cell? ⟨w1.heap.size, 1, none⟩ = some (.int .u64 LO) ∧ Hid (∃ v0 v1, Box2 Wb (w.heap.size + 1) v0 v1)) := by
        rw [hWb]
        refine Lib.hid ⟨Below.trans (by (repeat' (first | exact Below.refl _ _ | refine Below.drew ?_ | refine Below.setCell ?_ (by first | omega | (simp <;> omega)) _ | refine Below.alloc ?_ (by first | omega | (simp <;> omega)) _))) (Below.trans (HB1.out.mono (by first | omega | (simp <;> omega))) (by (repeat' (first | exact Below.refl _ _ | refine Below.drew ?_ | refine Below.setCell ?_ (by first | omega | (simp <;> omega)) _ | refine Below.alloc ?_ (by first | omega | (simp <;> omega)) _)))), by simp, by simp [go_sem], by simp [go_sem], Lib.hid ⟨_, _, HX1.out.below (n := w1.heap.size) (by (repeat' (first | exact Below.refl _ _ | refine Below.drew ?_ | refine Below.setCell ?_ (by first | omega | (simp <;> omega)) _ | refine Below.alloc ?_ (by first | omega | (simp <;> omega)) _))) (by first | omega | (simp <;> omega))⟩⟩
      rw [← hWb]
      clear hWb xc0 xc1 xf0 xf1 yc0 yc1 yf0 yf1 HX1 HB1
      go_region_held3 (fun w' => Below w.heap.size w w' ∧ w1.heap.size < w'.heap.size ∧ w'.cell? ⟨w1.heap.size, 0, none⟩ = some (.int .u64 HI) ∧ w'.cell? ⟨w1.heap.size, 1, none⟩ = some (.int .u64 LO) ∧ Hid (∃ v0 v1, Box2 w' (w.heap.size + 1) v0 v1)) (first | assumption | exact shortTrans HS0.out hl9 (Below.drew (Below.refl _ _)) | exact shortTrans (by assumption) hl9 (by assumption) | exact shortSet (by assumption) hl9)
        (first | (go_at_call 98; refine (HT _).out.mono ?_; rintro e w2 ⟨rfl, hb⟩; have hS2 := shortTrans (by assumption) hl9 hb; obtain ⟨v0, v1, Z1⟩ := hS2.2.2.2.2.out; obtain ⟨zc0, zc1, zf0, zf1⟩ := Z1; clear hS2))
      all_goals
        go_wp2_with fail
        (try simp only [Exit.noGoto, Exit.inBlock, Exit.then])
        refine bodyPost_ret (v := .tuple #[.agg #[.int .i64 H, .int .u64 L], .int .i64 Z]) (by rw [results_ct rfl]; go_simp) rfl ⟨rfl, shortB (by assumption)⟩
    · obtain ⟨rfl, rfl, rfl⟩ := hout (fun hlt => hfit (hlen.2 hlt))
      have hfit2 : 128 < 64 + (BH : Int) + n := by omega
      clear hsh hlg hon hlen htold hout hfit hz
      go_enter Tryz.func92, Tryz.ntmps92
      go_wp2_with (first | (go_at_call 94; go_loud (refine (ho _).out.mono ?_; rintro e w1 ⟨rfl, hb⟩; have HB1 := Lib.hid hb; have hs1 := hb.size; (try simp at hs1); have X0 := Box2.below (b := w.heap.size) (v0 := .int .i64 h) (v1 := .int .u64 l) (by constructor <;> go_simp) hb (by first | omega | (simp <;> omega)); have X1 := Box2.below (b := w.heap.size + 1) (v0 := .int .i64 0) (v1 := .int .u64 0) (by constructor <;> go_simp) hb (by first | omega | (simp <;> omega)); obtain ⟨xc0, xc1, xf0, xf1⟩ := X0; have HX1 := Lib.hid X1; obtain ⟨yc0, yc1, yf0, yf1⟩ := X1; have hl9 : w.heap.size + 1 < w1.heap.size := (by omega); clear hb)) | (go_at_call 105; have hmk := M1; clear hmk M1; refine (hl1 _).out.mono ?_; rintro e w' ⟨rfl, rfl⟩) | (go_at_call 105; have hmk := M2; clear hmk M2; refine (hl2 _).out.mono ?_; rintro e w' ⟨rfl, rfl⟩))
      (try simp only [Exit.noGoto, Exit.inBlock, Exit.then])
      refine bodyPost_ret (v := .tuple #[.agg #[.int .i64 0, .int .u64 0], .int .i64 3]) (by rw [results_ct rfl]; go_simp) rfl ⟨rfl, ?_⟩
      refine Below.alloc ?_ (by first | omega | (simp <;> omega)) _
      iterate 2 refine Below.setCell ?_ (by first | omega | (simp <;> omega)) _
      exact Below.trans (by (repeat' (first | exact Below.refl _ _ | refine Below.drew ?_ | refine Below.setCell ?_ (by first | omega | (simp <;> omega)) _ | refine Below.alloc ?_ (by first | omega | (simp <;> omega)) _))) (HB1.out.mono (by first | omega | (simp <;> omega)))

theorem V_split3 (s : Int) : V (s / 18446744073709551616) (s % 18446744073709551616) = s := by unfold V; omega
theorem left_in (h l : Int) (n : Nat) (w : World) (hn : n ≤ 126) (a : WR h l) (hin : inR (V h l * 2 ^ n)) :
    Calls Tryz.prog 92 #[.agg #[.int .i64 h, .int .u64 l], .int .i64 n] w (RetWE w (V h l * 2 ^ n / 18446744073709551616) (V h l * 2 ^ n % 18446744073709551616) 0) := by
  have hA := A_bounds h l a
  have hs := V_neg h l a
  have hp := pow_pos n
  have h0 : 0 ≤ A h l * 2 ^ n := Int.mul_nonneg hA.1 (by omega)
  have e : V h l * 2 ^ n = if decide (h < 0) = true then -(A h l * 2 ^ n) else A h l * 2 ^ n := by
    rw [← hs]
    by_cases hv : V h l < 0
    · rw [decide_eq_true hv, if_pos rfl]
      unfold A
      rw [if_pos hv, Int.neg_mul, Int.neg_neg]
    · rw [decide_eq_false hv, if_neg (by decide)]
      unfold A
      rw [if_neg hv]
  refine left_of h l n hn a _ _ _ w (fun hlt w => ?_) (fun hlt => ?_)
  · rw [e]
    refine told_in _ _ w h0 ?_
    rw [e] at hin
    unfold inR at hin
    split at hin
    · rename_i hd; rw [if_pos hd]; omega
    · rename_i hd; rw [if_neg hd]; omega
  · exfalso
    rw [e] at hin
    unfold inR at hin
    split at hin <;> omega
theorem left_out (h l : Int) (n : Nat) (w : World) (hn : n ≤ 126) (a : WR h l) (hin : ¬ inR (V h l * 2 ^ n)) :
    Calls Tryz.prog 92 #[.agg #[.int .i64 h, .int .u64 l], .int .i64 n] w (RetWE w 0 0 3) := by
  have hA := A_bounds h l a
  have hs := V_neg h l a
  have hp := pow_pos n
  have h0 : 0 ≤ A h l * 2 ^ n := Int.mul_nonneg hA.1 (by omega)
  have e : V h l * 2 ^ n = if decide (h < 0) = true then -(A h l * 2 ^ n) else A h l * 2 ^ n := by
    rw [← hs]
    by_cases hv : V h l < 0
    · rw [decide_eq_true hv, if_pos rfl]
      unfold A
      rw [if_pos hv, Int.neg_mul, Int.neg_neg]
    · rw [decide_eq_false hv, if_neg (by decide)]
      unfold A
      rw [if_neg hv]
  refine left_of h l n hn a _ _ _ w (fun hlt w => ?_) (fun _ => ⟨rfl, rfl, rfl⟩)
  refine told_out _ _ w h0 hlt ?_
  rw [e] at hin
  unfold inR at hin
  split at hin
  · rename_i hd; rw [if_pos hd]; omega
  · rename_i hd; rw [if_neg hd]; omega

end Go.Proofs.YtddhhfhammmaaaaGreat
