import Derived.Test.YtadlnmckcnfacaaGreatRows
import Derived.Test.YtadlnmckcnfacaaGreatVBase
import Derived.Test.YtadlnmckcnfacaaGreatVEnv
import Derived.Test.YtadlnmckcnfacaaGreatVOpen
import Derived.Test.YtadlnmckcnfacaaGreatVShape
import Derived.Test.YtadlnmckcnfacaaGreatVFr
import Derived.Test.YtadlnmckcnfacaaGreatVFrJ
import Derived.Test.YtadlnmckcnfacaaGreatVMTake
import Derived.Test.YtadlnmckcnfacaaGreatVParts
import Derived.BigQuiet
import Derived.BigRegion
import Derived.ChangeKeysEq
import Derived.Deep.Cut
import Derived.Deep.CutBlock
import Derived.Deep.CutRange
import Derived.Deep.LoopGhost
import Derived.Deep.RegionHeld3
import Derived.Deep.RegionWith
import Derived.Laws.BitsAllLaws
import Derived.Laws.BitsLemmas
import Derived.Laws.Externs
import Derived.Lib.BitFns
import Derived.Lib.Slices
import Derived.Lib.Small
import Derived.Lib.Strings
import Derived.Lib.Walk
import Derived.Shelf.Spec.BitsCarry
import Derived.Sort.AtCall
import Derived.WalkMore
set_option linter.unusedVariables false
set_option linter.unusedSimpArgs false
namespace Go.Proofs.YtadlnmckcnfacaaGreat
open Go.RowKit Go.Rt
set_option maxRecDepth 100000
def V (h l : Int) : Int := h * 18446744073709551616 + l
structure WR (h l : Int) : Prop where
  h0 : -9223372036854775808 ≤ h
  h1 : h ≤ 9223372036854775807
  l0 : 0 ≤ l
  l1 : l ≤ 18446744073709551615
def inR (s : Int) : Prop := -170141183460469231731687303715884105728 ≤ s ∧ s ≤ 170141183460469231731687303715884105727
theorem wrapU (y : Int) : IntKind.u64.wrap y = y % 18446744073709551616 := by
  simp [IntKind.wrap, IntKind.signed, IntKind.bits]
theorem run_add (x y c : Int) (hx : 0 ≤ x) (hy : 0 ≤ y) (hc0 : 0 ≤ c) (hc : c ≤ 1) (w : World) :
    (callFunc 77 #[.int .u64 x, .int .u64 y, .int .u64 c]).run Tryz.prog w = .ok (.value (.tuple #[.int .u64 ((x + y + c) % 18446744073709551616), .int .u64 ((x + y + c) / 18446744073709551616)])) w := by
  rw [run_callFunc_extern Tryz.func77 (by kernel_rfl) (by kernel_rfl) (by kernel_rfl) (e := add64Entry) (by kernel_rfl), run_add64 x y c hx hy hc0 hc]
  rfl
theorem run_sub (x y b : Nat) (hb : b ≤ 1) (w : World) :
    (callFunc 120 #[.int .u64 x, .int .u64 y, .int .u64 b]).run Tryz.prog w =
      .ok (.value (.tuple #[.int .u64 (((x + 18446744073709551616 - y - b) % 18446744073709551616 : Nat) : Int), .int .u64 ((if x < y + b then 1 else 0 : Nat) : Int)])) w := by
  rw [run_callFunc_extern Tryz.func120 (by kernel_rfl) (by kernel_rfl) (by kernel_rfl) (e := sub64Entry) (by kernel_rfl), run_sub64 x y b hb]
  rfl
theorem run_subI (x y b : Int) (hx : 0 ≤ x) (hx1 : x ≤ 18446744073709551615) (hy : 0 ≤ y) (hy1 : y ≤ 18446744073709551615) (hb0 : 0 ≤ b) (hb : b ≤ 1) (w : World) :
    (callFunc 120 #[.int .u64 x, .int .u64 y, .int .u64 b]).run Tryz.prog w = .ok (.value (.tuple #[.int .u64 ((x - y - b) % 18446744073709551616), .int .u64 (-((x - y - b) / 18446744073709551616))])) w := by
  obtain ⟨X, rfl⟩ := Int.eq_ofNat_of_zero_le hx
  obtain ⟨Y, rfl⟩ := Int.eq_ofNat_of_zero_le hy
  obtain ⟨B, rfl⟩ := Int.eq_ofNat_of_zero_le hb0
  have := run_sub X Y B (by omega) w
  rw [this]
  have e1 : (((X + 18446744073709551616 - Y - B) % 18446744073709551616 : Nat) : Int) = ((X : Int) - Y - B) % 18446744073709551616 := by omega
  have e2 : ((if X < Y + B then 1 else 0 : Nat) : Int) = -(((X : Int) - Y - B) / 18446744073709551616) := by split <;> omega
  rw [e1, e2]
end Go.Proofs.YtadlnmckcnfacaaGreat
namespace Go.Proofs.YtadlnmckcnfacaaGreat
open Go.RowKit Go.Rt
set_option maxRecDepth 100000
attribute [local go_sem] run_add run_subI
def RetW (w : World) (h l : Int) (e : Ending) (w' : World) : Prop := e = .returned (.agg #[.int .i64 h, .int .u64 l]) ∧ Below w.heap.size w w'
def RetWE (w : World) (h l z : Int) (e : Ending) (w' : World) : Prop := e = .returned (.tuple #[.agg #[.int .i64 h, .int .u64 l], .int .i64 z]) ∧ Below w.heap.size w w'
theorem results_c1 {fn : Func} {p : Tmp} {ty : TypeId} (h : fn.results = #[.cell p ty]) (tmps : Array Value) (P : Program) (w : World) :
    (results fn tmps).run P w = ((asAddr (tmps.getD p undef)).run P w).andThen fun a w₁ => (loadVar ty a).run P w₁ := by
  simp only [results, h]
  simp [Sem.run_bind, Result.andThen]
theorem results_ct {fn : Func} {p z : Tmp} {ty : TypeId} (h : fn.results = #[.cell p ty, .tmp z]) (tmps : Array Value) (P : Program) (w : World) :
    (results fn tmps).run P w = ((asAddr (tmps.getD p undef)).run P w).andThen fun a w₁ => ((loadVar ty a).run P w₁).andThen fun v w₂ => .ok (.tuple #[v, tmps.getD z undef]) w₂ := by
  simp only [results, h]
  simp [Sem.run_bind, Result.andThen]
theorem from_any (x : Int) (w : World) (h0 : -9223372036854775808 ≤ x) (h1 : x ≤ 9223372036854775807) :
    Calls Tryz.prog 110 #[.int .i64 x] w (RetW w (x / 9223372036854775808) (x % 18446744073709551616)) := by
  have hw : IntKind.u64.wrap x = x % 18446744073709551616 := wrapU x
  go_enter Tryz.func110, Tryz.ntmps110
  go_wp2
  exact bodyPost_ret (v := .agg #[.int .i64 (x / 9223372036854775808), .int .u64 (x % 18446744073709551616)]) (by rw [results_c1 rfl]; go_simp) rfl ⟨rfl, (by (repeat' (first | exact Below.refl _ _ | refine Below.drew ?_ | refine Below.setCell ?_ (by first | omega | (simp <;> omega)) _ | refine Below.alloc ?_ (by first | omega | (simp <;> omega)) _)))⟩
theorem add_in (h l h' l' : Int) (w : World) (a : WR h l) (b : WR h' l') (hin : inR (V h l + V h' l')) :
    Calls Tryz.prog 41 #[.agg #[.int .i64 h, .int .u64 l], .agg #[.int .i64 h', .int .u64 l']] w (RetWE w ((V h l + V h' l') / 18446744073709551616) ((V h l + V h' l') % 18446744073709551616) 0) := by
  obtain ⟨a0, a1, a2, a3⟩ := a
  obtain ⟨b0, b1, b2, b3⟩ := b
  unfold inR V at hin
  have hL : V h l + V h' l' = V h l + V h' l' := rfl
  obtain ⟨HI, hH⟩ : ∃ y, (V h l + V h' l') / 18446744073709551616 = y := ⟨_, rfl⟩
  obtain ⟨LO, hLO⟩ : ∃ y, (V h l + V h' l') % 18446744073709551616 = y := ⟨_, rfl⟩
  rw [hH, hLO]
  unfold V at hH hLO
  have e1 : RowKit.wrap64 (RowKit.wrap64 (h + h') + (l + l') / 18446744073709551616) = HI := by unfold RowKit.wrap64; omega
  have e2 : (l + l') % 18446744073709551616 = LO := by omega
  have e0 : h + h' + (l + l') / 18446744073709551616 = HI := by omega
  have es : h < 0 ∨ ¬ h < 0 := by omega
  have es' : h' < 0 ∨ ¬ h' < 0 := by omega
  have eh : HI < 0 ∨ ¬ HI < 0 := by omega
  have hk : (h < 0 ∧ h' < 0 → HI < 0) ∧ (¬ h < 0 ∧ ¬ h' < 0 → ¬ HI < 0) := by constructor <;> intro hh <;> omega
  clear hH hLO hin
  rcases es with es | es <;> rcases es' with es' | es' <;> rcases eh with eh | eh
  all_goals first
    | (exfalso; obtain ⟨k1, k2⟩ := hk; first | exact eh (k1 ⟨es, es'⟩) | exact k2 ⟨es, es'⟩ eh)
    | (clear hk
       go_enter Tryz.func41, Tryz.ntmps41
       go_wp2
       exact bodyPost_ret (v := .tuple #[.agg #[.int .i64 HI, .int .u64 LO], .int .i64 0]) (by rw [results_ct rfl]; go_simp <;> omega) rfl ⟨rfl, (by (repeat' (first | exact Below.refl _ _ | refine Below.drew ?_ | refine Below.setCell ?_ (by first | omega | (simp <;> omega)) _ | refine Below.alloc ?_ (by first | omega | (simp <;> omega)) _)))⟩)
theorem small_any (h l : Int) (w : World) (a : WR h l) :
    Calls Tryz.prog 107 #[.agg #[.int .i64 h, .int .u64 l]] w fun e w' => e = .returned (.tuple #[.int .i64 (if -9223372036854775808 ≤ V h l ∧ V h l ≤ 9223372036854775807 then V h l else 0), .bool (decide (-9223372036854775808 ≤ V h l ∧ V h l ≤ 9223372036854775807))]) ∧ Below w.heap.size w w' := by
  obtain ⟨a0, a1, a2, a3⟩ := a
  by_cases hr : -9223372036854775808 ≤ V h l ∧ V h l ≤ 9223372036854775807
  · rw [if_pos hr, decide_eq_true hr]
    unfold V at hr ⊢
    have e1 : RowKit.wrap64 l = h * 18446744073709551616 + l := by unfold RowKit.wrap64; omega
    have e2 : (h * 18446744073709551616 + l) / 9223372036854775808 = h := by omega
    go_enter Tryz.func107, Tryz.ntmps107
    go_wp2
    exact bodyPost_ret (by rw [results_tmp2 rfl]; go_simp <;> omega) rfl ⟨rfl, (by (repeat' (first | exact Below.refl _ _ | refine Below.drew ?_ | refine Below.setCell ?_ (by first | omega | (simp <;> omega)) _ | refine Below.alloc ?_ (by first | omega | (simp <;> omega)) _)))⟩
  · rw [if_neg hr, decide_eq_false hr]
    unfold V at hr
    obtain ⟨Z, hZ⟩ : ∃ y, RowKit.wrap64 l = y := ⟨_, rfl⟩
    have e2 : ¬ Z / 9223372036854775808 = h := by rw [← hZ]; unfold RowKit.wrap64; omega
    have e3 : (Z / 9223372036854775808 == h) = false := by simp; exact e2
    go_enter Tryz.func107, Tryz.ntmps107
    go_wp2
    exact bodyPost_ret (by rw [results_tmp2 rfl]; go_simp <;> omega) rfl ⟨rfl, (by (repeat' (first | exact Below.refl _ _ | refine Below.drew ?_ | refine Below.setCell ?_ (by first | omega | (simp <;> omega)) _ | refine Below.alloc ?_ (by first | omega | (simp <;> omega)) _)))⟩
theorem results_tc2 {fn : Func} {u p : Tmp} {ty : TypeId} (h : fn.results = #[.tmp u, .cell p ty]) (tmps : Array Value) (P : Program) (w : World) :
    (results fn tmps).run P w = ((asAddr (tmps.getD p undef)).run P w).andThen fun a w₁ => ((loadVar ty a).run P w₁).andThen fun v w₂ => .ok (.tuple #[tmps.getD u undef, v]) w₂ := by
  simp only [results, h]
  simp [Sem.run_bind, Result.andThen]
theorem xor_max (l : Int) (l0 : 0 ≤ l) (l1 : l ≤ 18446744073709551615) : bits BinOp.xor IntKind.u64 IntKind.u64.max l = 18446744073709551615 - l := by
  obtain ⟨n, rfl⟩ := Int.eq_ofNat_of_zero_le l0
  show IntKind.u64.wrap ((BitVec.ofInt 64 IntKind.u64.max ^^^ BitVec.ofInt 64 (n : Int)).toNat : Int) = _
  have e : BitVec.ofInt 64 IntKind.u64.max = BitVec.allOnes 64 := by decide
  rw [e, BitVec.allOnes_xor, BitVec.toNat_not, ofInt_u64 n (by omega), wrapU]
  omega
theorem minus_any (h l : Int) (w : World) (h0 : 0 ≤ h) (h1 : h ≤ 18446744073709551615) (l0 : 0 ≤ l) (l1 : l ≤ 18446744073709551615) :
    Calls Tryz.prog 106 #[.agg #[.int .u64 h, .int .u64 l]] w fun e w' => e = .returned (.agg #[.int .u64 ((340282366920938463463374607431768211456 - V h l) % 340282366920938463463374607431768211456 / 18446744073709551616), .int .u64 ((340282366920938463463374607431768211456 - V h l) % 340282366920938463463374607431768211456 % 18446744073709551616)]) ∧ Below w.heap.size w w' := by
  have x1 := xor_max l l0 l1
  have x2 := xor_max h h0 h1
  obtain ⟨HI, hH⟩ : ∃ y, (340282366920938463463374607431768211456 - V h l) % 340282366920938463463374607431768211456 / 18446744073709551616 = y := ⟨_, rfl⟩
  obtain ⟨LO, hLO⟩ : ∃ y, (340282366920938463463374607431768211456 - V h l) % 340282366920938463463374607431768211456 % 18446744073709551616 = y := ⟨_, rfl⟩
  rw [hH, hLO]
  unfold V at hH hLO
  have e1 : (18446744073709551615 - l + 1) % 18446744073709551616 = LO := by omega
  have e2 : IntKind.u64.wrap (18446744073709551615 - h + (18446744073709551615 - l + 1) / 18446744073709551616) = HI := by rw [wrapU]; omega
  have e3 : 0 ≤ 18446744073709551615 - l := by omega
  clear hH hLO
  go_enter Tryz.func106, Tryz.ntmps106
  go_wp2
  exact bodyPost_ret (v := .agg #[.int .u64 HI, .int .u64 LO]) (by rw [results_c1 rfl]; go_simp <;> omega) rfl ⟨rfl, (by (repeat' (first | exact Below.refl _ _ | refine Below.drew ?_ | refine Below.setCell ?_ (by first | omega | (simp <;> omega)) _ | refine Below.alloc ?_ (by first | omega | (simp <;> omega)) _)))⟩
def A (h l : Int) : Int := if V h l < 0 then -V h l else V h l
theorem A_bounds (h l : Int) (a : WR h l) : 0 ≤ A h l ∧ A h l ≤ 170141183460469231731687303715884105728 := by
  obtain ⟨a0, a1, a2, a3⟩ := a
  unfold A V
  split <;> omega
theorem of_any (h l : Int) (w : World) (a : WR h l) :
    Calls Tryz.prog 111 #[.agg #[.int .i64 h, .int .u64 l]] w fun e w' => e = .returned (.tuple #[.bool (decide (h < 0)), .agg #[.int .u64 (A h l / 18446744073709551616), .int .u64 (A h l % 18446744073709551616)]]) ∧ Below w.heap.size w w' := by
  obtain ⟨a0, a1, a2, a3⟩ := a
  by_cases hn : h < 0
  · rw [decide_eq_true hn]
    have hw : IntKind.u64.wrap h = h + 18446744073709551616 := by rw [wrapU]; omega
    have hA : A h l = -(h * 18446744073709551616 + l) := by unfold A V; rw [if_pos (by omega)]
    have hm := fun w => Lib.hid (minus_any (h + 18446744073709551616) l w (by omega) (by omega) a2 a3)
    have e0 : (340282366920938463463374607431768211456 - V (h + 18446744073709551616) l) % 340282366920938463463374607431768211456 = A h l := by rw [hA]; unfold V; omega
    rw [e0] at hm
    obtain ⟨HI, hH⟩ : ∃ y, A h l / 18446744073709551616 = y := ⟨_, rfl⟩
    obtain ⟨LO, hLO⟩ : ∃ y, A h l % 18446744073709551616 = y := ⟨_, rfl⟩
    rw [hH, hLO] at hm
    rw [hH, hLO]
    clear hH hLO e0 hA
    go_enter Tryz.func111, Tryz.ntmps111
    go_wp2_with (first
      | (go_at_call 106; go_loud (refine (hm _).out.mono ?_; rintro e w1 ⟨rfl, hb⟩; have HB := Lib.hid hb; have hs := hb.size; (try simp at hs); have j0 := (hb.cell (p := ⟨w.heap.size + 1, 0, none⟩) (by first | omega | (simp <;> omega))); have j1 := (hb.cell (p := ⟨w.heap.size + 1, 1, none⟩) (by first | omega | (simp <;> omega))); have g0 := (hb.frozen (p := ⟨w.heap.size + 1, 0, none⟩) (by first | omega | (simp <;> omega))); have g1 := (hb.frozen (p := ⟨w.heap.size + 1, 1, none⟩) (by first | omega | (simp <;> omega))); clear hb)))
    (try simp only [Exit.inBlock, Exit.then])
    refine bodyPost_ret (v := .tuple #[.bool true, .agg #[.int .u64 HI, .int .u64 LO]]) (by rw [results_tc2 rfl]; go_simp) rfl ⟨rfl, ?_⟩
    iterate 2 refine Below.setCell ?_ (by first | omega | (simp <;> omega)) _
    exact Below.trans (by (repeat' (first | exact Below.refl _ _ | refine Below.drew ?_ | refine Below.setCell ?_ (by first | omega | (simp <;> omega)) _ | refine Below.alloc ?_ (by first | omega | (simp <;> omega)) _))) (HB.out.mono (by first | omega | (simp <;> omega)))
  · rw [decide_eq_false hn]
    have hw : IntKind.u64.wrap h = h := by rw [wrapU]; omega
    have hA : A h l = h * 18446744073709551616 + l := by unfold A V; rw [if_neg (by omega)]
    have hH : A h l / 18446744073709551616 = h := by omega
    have hLO : A h l % 18446744073709551616 = l := by omega
    rw [hH, hLO]
    clear hH hLO hA
    go_enter Tryz.func111, Tryz.ntmps111
    go_wp2
    go_region
    go_wp2
    (try simp only [Exit.inBlock, Exit.then])
    exact bodyPost_ret (v := .tuple #[.bool false, .agg #[.int .u64 h, .int .u64 l]]) (by rw [results_tc2 rfl]; go_simp) rfl ⟨rfl, (by (repeat' (first | exact Below.refl _ _ | refine Below.drew ?_ | refine Below.setCell ?_ (by first | omega | (simp <;> omega)) _ | refine Below.alloc ?_ (by first | omega | (simp <;> omega)) _)))⟩
theorem told_in (neg : Bool) (n : Int) (w : World) (n0 : 0 ≤ n) (hn : if neg = true then n ≤ 170141183460469231731687303715884105728 else n < 170141183460469231731687303715884105728) :
    Calls Tryz.prog 80 #[.bool neg, .agg #[.int .u64 (n / 18446744073709551616), .int .u64 (n % 18446744073709551616)]] w (RetWE w ((if neg = true then -n else n) / 18446744073709551616) ((if neg = true then -n else n) % 18446744073709551616) 0) := by
  have hHb : 0 ≤ n / 18446744073709551616 ∧ n / 18446744073709551616 ≤ 9223372036854775808 := by split at hn <;> omega
  have hLb : 0 ≤ n % 18446744073709551616 ∧ n % 18446744073709551616 ≤ 18446744073709551615 := by omega
  have hm := fun w => Lib.hid (minus_any (n / 18446744073709551616) (n % 18446744073709551616) w hHb.1 (by omega) hLb.1 hLb.2)
  have e0 : V (n / 18446744073709551616) (n % 18446744073709551616) = n := by unfold V; omega
  rw [e0] at hm
  cases neg with
  | false =>
    simp only [Bool.false_eq_true, if_false] at hn ⊢
    obtain ⟨HI, hH⟩ : ∃ y, n / 18446744073709551616 = y := ⟨_, rfl⟩
    obtain ⟨LO, hLO⟩ : ∃ y, n % 18446744073709551616 = y := ⟨_, rfl⟩
    rw [hH, hLO]
    have e1 : (HI / 9223372036854775808 == 1) = false := by simp; omega
    have e2 : RowKit.wrap64 HI = HI := by unfold RowKit.wrap64; omega
    have e3 : 0 ≤ HI := by omega
    have e5 : HI ≤ 9223372036854775807 := by omega
    have e4 : IntKind.i64.wrap HI = HI := by rw [IntKind.wrap_i64]; omega
    clear hH hLO hHb hLb hm e0
    go_enter Tryz.func80, Tryz.ntmps80
    go_wp2
    exact bodyPost_ret (v := .tuple #[.agg #[.int .i64 HI, .int .u64 LO], .int .i64 0]) (by rw [results_ct rfl]; go_simp) rfl ⟨rfl, (by (repeat' (first | exact Below.refl _ _ | refine Below.drew ?_ | refine Below.setCell ?_ (by first | omega | (simp <;> omega)) _ | refine Below.alloc ?_ (by first | omega | (simp <;> omega)) _)))⟩
  | true =>
    simp only [if_true] at hn ⊢
    obtain ⟨HI, hH⟩ : ∃ y, n / 18446744073709551616 = y := ⟨_, rfl⟩
    obtain ⟨LO, hLO⟩ : ∃ y, n % 18446744073709551616 = y := ⟨_, rfl⟩
    obtain ⟨HM, hHM⟩ : ∃ y, (340282366920938463463374607431768211456 - n) % 340282366920938463463374607431768211456 / 18446744073709551616 = y := ⟨_, rfl⟩
    obtain ⟨LM, hLM⟩ : ∃ y, (340282366920938463463374607431768211456 - n) % 340282366920938463463374607431768211456 % 18446744073709551616 = y := ⟨_, rfl⟩
    rw [hH, hLO, hHM, hLM] at hm
    rw [hH, hLO]
    have e6 : RowKit.wrap64 HM = -n / 18446744073709551616 := by unfold RowKit.wrap64; omega
    have e7 : LM = -n % 18446744073709551616 := by omega
    have e8 : 0 ≤ HM ∧ HM ≤ 18446744073709551615 := by omega
    obtain ⟨e8a, e8b⟩ := e8
    rw [← e7, ← e6]
    have e3 : 0 ≤ HI := by omega
    by_cases hT : n = 170141183460469231731687303715884105728
    · have e1 : (HI / 9223372036854775808 == 1) = true := by simp; omega
      have e5 : HI = 9223372036854775808 := by omega
      have e9 : LO = 0 := by omega
      clear hH hLO hHb hLb hHM hLM e0 e6 e7
      subst e5; subst e9
      go_enter Tryz.func80, Tryz.ntmps80
      go_wp2_with (first
        | (go_at_call 106; go_loud (refine (hm _).out.mono ?_; rintro e w1 ⟨rfl, hb⟩; have HB := Lib.hid hb; have hs := hb.size; (try simp at hs); have j00 := (hb.cell (p := ⟨w.heap.size, 0, none⟩) (by first | omega | (simp <;> omega))); have g00 := (hb.frozen (p := ⟨w.heap.size, 0, none⟩) (by first | omega | (simp <;> omega))); have j01 := (hb.cell (p := ⟨w.heap.size, 1, none⟩) (by first | omega | (simp <;> omega))); have g01 := (hb.frozen (p := ⟨w.heap.size, 1, none⟩) (by first | omega | (simp <;> omega))); have j10 := (hb.cell (p := ⟨w.heap.size + 1, 0, none⟩) (by first | omega | (simp <;> omega))); have g10 := (hb.frozen (p := ⟨w.heap.size + 1, 0, none⟩) (by first | omega | (simp <;> omega))); have j11 := (hb.cell (p := ⟨w.heap.size + 1, 1, none⟩) (by first | omega | (simp <;> omega))); have g11 := (hb.frozen (p := ⟨w.heap.size + 1, 1, none⟩) (by first | omega | (simp <;> omega))); clear hb)))
      refine bodyPost_ret (v := .tuple #[.agg #[.int .i64 (RowKit.wrap64 HM), .int .u64 LM], .int .i64 0]) (by rw [results_ct rfl]; go_simp) rfl ⟨rfl, ?_⟩
      iterate 4 refine Below.setCell ?_ (by first | omega | (simp <;> omega)) _
      exact Below.trans (by (repeat' (first | exact Below.refl _ _ | refine Below.drew ?_ | refine Below.setCell ?_ (by first | omega | (simp <;> omega)) _ | refine Below.alloc ?_ (by first | omega | (simp <;> omega)) _))) (HB.out.mono (by first | omega | (simp <;> omega)))
    · have e1 : (HI / 9223372036854775808 == 1) = false := by simp; omega
      clear hH hLO hHb hLb hHM hLM e0 e6 e7
      go_enter Tryz.func80, Tryz.ntmps80
      go_wp2_with (first
        | (go_at_call 106; go_loud (refine (hm _).out.mono ?_; rintro e w1 ⟨rfl, hb⟩; have HB := Lib.hid hb; have hs := hb.size; (try simp at hs); have j00 := (hb.cell (p := ⟨w.heap.size, 0, none⟩) (by first | omega | (simp <;> omega))); have g00 := (hb.frozen (p := ⟨w.heap.size, 0, none⟩) (by first | omega | (simp <;> omega))); have j01 := (hb.cell (p := ⟨w.heap.size, 1, none⟩) (by first | omega | (simp <;> omega))); have g01 := (hb.frozen (p := ⟨w.heap.size, 1, none⟩) (by first | omega | (simp <;> omega))); have j10 := (hb.cell (p := ⟨w.heap.size + 1, 0, none⟩) (by first | omega | (simp <;> omega))); have g10 := (hb.frozen (p := ⟨w.heap.size + 1, 0, none⟩) (by first | omega | (simp <;> omega))); have j11 := (hb.cell (p := ⟨w.heap.size + 1, 1, none⟩) (by first | omega | (simp <;> omega))); have g11 := (hb.frozen (p := ⟨w.heap.size + 1, 1, none⟩) (by first | omega | (simp <;> omega))); clear hb)))
      refine bodyPost_ret (v := .tuple #[.agg #[.int .i64 (RowKit.wrap64 HM), .int .u64 LM], .int .i64 0]) (by rw [results_ct rfl]; go_simp) rfl ⟨rfl, ?_⟩
      iterate 4 refine Below.setCell ?_ (by first | omega | (simp <;> omega)) _
      exact Below.trans (by (repeat' (first | exact Below.refl _ _ | refine Below.drew ?_ | refine Below.setCell ?_ (by first | omega | (simp <;> omega)) _ | refine Below.alloc ?_ (by first | omega | (simp <;> omega)) _))) (HB.out.mono (by first | omega | (simp <;> omega)))
theorem less_any (h l h' l' : Int) (w : World) (l0 : 0 ≤ l) (l1 : l ≤ 18446744073709551615) (l0' : 0 ≤ l') (l1' : l' ≤ 18446744073709551615) :
    Calls Tryz.prog 113 #[.agg #[.int .u64 h, .int .u64 l], .agg #[.int .u64 h', .int .u64 l']] w fun e w' => e = .returned (.bool (decide (V h l < V h' l'))) ∧ Below w.heap.size w w' := by
  have e1 : V h l = h * 18446744073709551616 + l := rfl
  have e2 : V h' l' = h' * 18446744073709551616 + l' := rfl
  rcases Int.lt_trichotomy h h' with h1 | h1 | h1
  · have e : decide (V h l < V h' l') = true := decide_eq_true (by omega)
    rw [e]
    clear e e1 e2
    go_enter Tryz.func113, Tryz.ntmps113
    go_wp2
    go_ret
    exact ⟨rfl, (by (repeat' (first | exact Below.refl _ _ | refine Below.drew ?_ | refine Below.setCell ?_ (by first | omega | (simp <;> omega)) _ | refine Below.alloc ?_ (by first | omega | (simp <;> omega)) _)))⟩
  · subst h1
    have e : decide (V h l < V h l') = decide (l < l') := by rw [decide_eq_decide]; omega
    rw [e]
    clear e e1 e2
    go_enter Tryz.func113, Tryz.ntmps113
    go_wp2
    go_ret
    exact ⟨rfl, (by (repeat' (first | exact Below.refl _ _ | refine Below.drew ?_ | refine Below.setCell ?_ (by first | omega | (simp <;> omega)) _ | refine Below.alloc ?_ (by first | omega | (simp <;> omega)) _)))⟩
  · have e : decide (V h l < V h' l') = false := decide_eq_false (by omega)
    have h2 : ¬ h < h' := by omega
    have h3 : ¬ h = h' := by omega
    have h4 : (h == h') = false := by simp; exact h3
    rw [e]
    clear e e1 e2
    go_enter Tryz.func113, Tryz.ntmps113
    go_wp2
    go_ret
    exact ⟨rfl, (by (repeat' (first | exact Below.refl _ _ | refine Below.drew ?_ | refine Below.setCell ?_ (by first | omega | (simp <;> omega)) _ | refine Below.alloc ?_ (by first | omega | (simp <;> omega)) _)))⟩
theorem szsub_any (h l h' l' : Int) (w : World) (h0 : 0 ≤ h) (h1 : h ≤ 18446744073709551615) (l0 : 0 ≤ l) (l1 : l ≤ 18446744073709551615) (h0' : 0 ≤ h') (h1' : h' ≤ 18446744073709551615) (l0' : 0 ≤ l') (l1' : l' ≤ 18446744073709551615) :
    Calls Tryz.prog 112 #[.agg #[.int .u64 h, .int .u64 l], .agg #[.int .u64 h', .int .u64 l']] w fun e w' => e = .returned (.agg #[.int .u64 ((V h l - V h' l') % 340282366920938463463374607431768211456 / 18446744073709551616), .int .u64 ((V h l - V h' l') % 340282366920938463463374607431768211456 % 18446744073709551616)]) ∧ Below w.heap.size w w' := by
  obtain ⟨HI, hH⟩ : ∃ y, (V h l - V h' l') % 340282366920938463463374607431768211456 / 18446744073709551616 = y := ⟨_, rfl⟩
  obtain ⟨LO, hLO⟩ : ∃ y, (V h l - V h' l') % 340282366920938463463374607431768211456 % 18446744073709551616 = y := ⟨_, rfl⟩
  rw [hH, hLO]
  unfold V at hH hLO
  have e1 : (l - l') % 18446744073709551616 = LO := by omega
  obtain ⟨B, hB⟩ : ∃ y, -((l - l') / 18446744073709551616) = y := ⟨_, rfl⟩
  have e2 : (h - h' - B) % 18446744073709551616 = HI := by omega
  have e3 : 0 ≤ B := by omega
  have e4 : B ≤ 1 := by omega
  clear hH hLO
  go_enter Tryz.func112, Tryz.ntmps112
  go_wp2
  exact bodyPost_ret (v := .agg #[.int .u64 HI, .int .u64 LO]) (by rw [results_c1 rfl]; go_simp <;> omega) rfl ⟨rfl, (by (repeat' (first | exact Below.refl _ _ | refine Below.drew ?_ | refine Below.setCell ?_ (by first | omega | (simp <;> omega)) _ | refine Below.alloc ?_ (by first | omega | (simp <;> omega)) _)))⟩
theorem next_any (h l : Int) (w : World) (h0 : 0 ≤ h) (h1 : h ≤ 18446744073709551615) (l0 : 0 ≤ l) (l1 : l ≤ 18446744073709551615) :
    Calls Tryz.prog 114 #[.agg #[.int .u64 h, .int .u64 l]] w fun e w' => e = .returned (.agg #[.int .u64 ((V h l + 1) % 340282366920938463463374607431768211456 / 18446744073709551616), .int .u64 ((V h l + 1) % 340282366920938463463374607431768211456 % 18446744073709551616)]) ∧ Below w.heap.size w w' := by
  obtain ⟨HI, hH⟩ : ∃ y, (V h l + 1) % 340282366920938463463374607431768211456 / 18446744073709551616 = y := ⟨_, rfl⟩
  obtain ⟨LO, hLO⟩ : ∃ y, (V h l + 1) % 340282366920938463463374607431768211456 % 18446744073709551616 = y := ⟨_, rfl⟩
  rw [hH, hLO]
  unfold V at hH hLO
  have e1 : (l + 1) % 18446744073709551616 = LO := by omega
  have e2 : IntKind.u64.wrap (h + (l + 1) / 18446744073709551616) = HI := by rw [wrapU]; omega
  clear hH hLO
  go_enter Tryz.func114, Tryz.ntmps114
  go_wp2
  exact bodyPost_ret (v := .agg #[.int .u64 HI, .int .u64 LO]) (by rw [results_c1 rfl]; go_simp <;> omega) rfl ⟨rfl, (by (repeat' (first | exact Below.refl _ _ | refine Below.drew ?_ | refine Below.setCell ?_ (by first | omega | (simp <;> omega)) _ | refine Below.alloc ?_ (by first | omega | (simp <;> omega)) _)))⟩
structure Box2 (w : World) (b : Nat) (v0 v1 : Value) : Prop where
  c0 : w.cell? ⟨b, 0, none⟩ = some v0
  c1 : w.cell? ⟨b, 1, none⟩ = some v1
  f0 : w.frozen? ⟨b, 0, none⟩ = false
  f1 : w.frozen? ⟨b, 1, none⟩ = false
theorem Box2.below {w w' : World} {b n : Nat} {v0 v1 : Value} (h : Box2 w b v0 v1) (hb : Below n w w') (hn : b < n) : Box2 w' b v0 v1 :=
  ⟨(hb.cell (p := ⟨b, 0, none⟩) hn).trans h.c0, (hb.cell (p := ⟨b, 1, none⟩) hn).trans h.c1, (hb.frozen (p := ⟨b, 0, none⟩) hn).trans h.f0, (hb.frozen (p := ⟨b, 1, none⟩) hn).trans h.f1⟩
def upR (q r d : Int) : Bool := decide (d - r < r) || (decide (d - r = r) && decide (q % 2 = 1))
def absI (x : Int) : Int := if x < 0 then -x else x
theorem bitLenAux_bounds : ∀ (f x : Nat), x < 2 ^ f → x < 2 ^ Lib.bitLenAux f x ∧ (x ≠ 0 → 1 ≤ Lib.bitLenAux f x ∧ 2 ^ (Lib.bitLenAux f x - 1) ≤ x)
  | 0, x, h => by
    have : x = 0 := by simpa using h
    subst this
    exact ⟨by simp [Lib.bitLenAux], fun h => absurd rfl h⟩
  | f + 1, x, h => by
    simp only [Lib.bitLenAux]
    split
    · rename_i h0
      subst h0
      exact ⟨by simp, fun h => absurd rfl h⟩
    · rename_i h0
      obtain ⟨i1, i2⟩ := bitLenAux_bounds f (x / 2) (by rw [Nat.pow_succ] at h; omega)
      refine ⟨by rw [Nat.add_comm, Nat.pow_succ]; omega, fun _ => ⟨by omega, ?_⟩⟩
      by_cases h1 : x / 2 = 0
      · have : x = 1 := by omega
        subst this
        have : Lib.bitLenAux f (1 / 2) = 0 := by cases f <;> simp [Lib.bitLenAux]
        rw [this]
        decide
      · obtain ⟨j1, j2⟩ := i2 h1
        have e : 1 + Lib.bitLenAux f (x / 2) - 1 = (Lib.bitLenAux f (x / 2) - 1) + 1 := by omega
        rw [e, Nat.pow_succ]
        omega
theorem bitLen_bounds (x : Nat) (h : x < 18446744073709551616) : x < 2 ^ Lib.bitLen x ∧ (x ≠ 0 → 1 ≤ Lib.bitLen x ∧ 2 ^ (Lib.bitLen x - 1) ≤ x) := bitLenAux_bounds 64 x h
theorem bitLen_64 (x : Int) (h0 : 0 ≤ x) (h1 : x ≤ 18446744073709551615) : Lib.bitLen x.toNat ≤ 64 := Lib.bitLen_le x.toNat 64 (by omega) (by omega)
theorem tab_at (i : Int) (h0 : 0 ≤ i) (h1 : i ≤ 255) (h : i.toNat < Lib.len8tab.size) : ((Lib.len8tab[i.toNat]'h).toNat : Int) = (Lib.bitLen i.toNat : Int) := by
  rw [← Lib.len8_of i h0 h1]
  simp only [Lib.len8, ByteArray.getElem?_lt' _ _ h, Option.getD_some]
set_option maxHeartbeats 4000000 in
set_option maxRecDepth 100000 in
theorem len64_any (x : Int) (w : World) (h0 : 0 ≤ x) (h1 : x ≤ 18446744073709551615) :
    Calls Tryz.prog 119 #[.int .u64 x] w fun e w' => e = .returned (.int .i64 (Lib.bitLen x.toNat)) ∧ w' = w := by
  go_enter Tryz.func119, Tryz.ntmps119
  go_wp2
  all_goals first
    | (exfalso; rename_i hbad; rw [Lib.len8tab_size] at hbad; omega)
    | (go_ret; refine ⟨congrArg Ending.returned (congrArg (Value.int IntKind.i64) ?_), rfl⟩)
  · rw [tab_at (x / 4294967296 / 65536 / 256) (by omega) (by omega)]
    have e : (x / 4294967296 / 65536 / 256).toNat = x.toNat / 72057594037927936 := by omega
    have l := Lib.bitLen_le8' (x / 4294967296 / 65536 / 256) (by omega) (by omega)
    have s := Lib.bitLen_shift56 x.toNat (by omega) (by omega)
    rw [e] at l ⊢
    rw [s]
    generalize Lib.bitLen (x.toNat / 72057594037927936) = B at l ⊢
    clear e s
    unfold RowKit.wrap64
    omega
  · rw [tab_at (x / 4294967296 / 65536) (by omega) (by omega)]
    have e : (x / 4294967296 / 65536).toNat = x.toNat / 281474976710656 := by omega
    have l := Lib.bitLen_le8' (x / 4294967296 / 65536) (by omega) (by omega)
    have s := Lib.bitLen_shift48 x.toNat (by omega) (by omega)
    rw [e] at l ⊢
    rw [s]
    generalize Lib.bitLen (x.toNat / 281474976710656) = B at l ⊢
    clear e s
    unfold RowKit.wrap64
    omega
  · rw [tab_at (x / 4294967296 / 256) (by omega) (by omega)]
    have e : (x / 4294967296 / 256).toNat = x.toNat / 1099511627776 := by omega
    have l := Lib.bitLen_le8' (x / 4294967296 / 256) (by omega) (by omega)
    have s := Lib.bitLen_shift40 x.toNat (by omega) (by omega)
    rw [e] at l ⊢
    rw [s]
    generalize Lib.bitLen (x.toNat / 1099511627776) = B at l ⊢
    clear e s
    unfold RowKit.wrap64
    omega
  · rw [tab_at (x / 4294967296) (by omega) (by omega)]
    have e : (x / 4294967296).toNat = x.toNat / 4294967296 := by omega
    have l := Lib.bitLen_le8' (x / 4294967296) (by omega) (by omega)
    have s := Lib.bitLen_shift32 x.toNat (by omega) (by omega)
    rw [e] at l ⊢
    rw [s]
    generalize Lib.bitLen (x.toNat / 4294967296) = B at l ⊢
    clear e s
    unfold RowKit.wrap64
    omega
  · rw [tab_at (x / 65536 / 256) (by omega) (by omega)]
    have e : (x / 65536 / 256).toNat = x.toNat / 16777216 := by omega
    have l := Lib.bitLen_le8' (x / 65536 / 256) (by omega) (by omega)
    have s := Lib.bitLen_shift24 x.toNat (by omega) (by omega)
    rw [e] at l ⊢
    rw [s]
    generalize Lib.bitLen (x.toNat / 16777216) = B at l ⊢
    clear e s
    unfold RowKit.wrap64
    omega
  · rw [tab_at (x / 65536) (by omega) (by omega)]
    have e : (x / 65536).toNat = x.toNat / 65536 := by omega
    have l := Lib.bitLen_le8' (x / 65536) (by omega) (by omega)
    have s := Lib.bitLen_shift16 x.toNat (by omega) (by omega)
    rw [e] at l ⊢
    rw [s]
    generalize Lib.bitLen (x.toNat / 65536) = B at l ⊢
    clear e s
    unfold RowKit.wrap64
    omega
  · rw [tab_at (x / 256) (by omega) (by omega)]
    have e : (x / 256).toNat = x.toNat / 256 := by omega
    have l := Lib.bitLen_le8' (x / 256) (by omega) (by omega)
    have s := Lib.bitLen_shift8 x.toNat (by omega) (by omega)
    rw [e] at l ⊢
    rw [s]
    generalize Lib.bitLen (x.toNat / 256) = B at l ⊢
    clear e s
    unfold RowKit.wrap64
    omega
  · rw [tab_at (x) (by omega) (by omega)]
    have e : (x).toNat = x.toNat := by omega
    have l := Lib.bitLen_le8' (x) (by omega) (by omega)
    rw [e] at l ⊢
    generalize Lib.bitLen x.toNat = B at l ⊢
    clear e
    unfold RowKit.wrap64
    omega
theorem castPow (k : Nat) : ((2 ^ k : Nat) : Int) = (2 : Int) ^ k := by simp
theorem V_neg (h l : Int) (a : WR h l) : decide (V h l < 0) = decide (h < 0) := by
  obtain ⟨_, _, _, _⟩ := a
  by_cases hn : h < 0
  · rw [decide_eq_true hn]; exact decide_eq_true (by unfold V; omega)
  · rw [decide_eq_false hn]; exact decide_eq_false (by unfold V; omega)
end Go.Proofs.YtadlnmckcnfacaaGreat
namespace Go.Proofs.YtadlnmckcnfacaaGreat
open Go.RowKit Go.Rt
def roundI (n d : Int) : Int :=
  if (decide (n < 0) != decide (d < 0)) = true then -(if upR (absI n / absI d) (absI n % absI d) (absI d) = true then absI n / absI d + 1 else absI n / absI d)
  else (if upR (absI n / absI d) (absI n % absI d) (absI d) = true then absI n / absI d + 1 else absI n / absI d)
def isW (v : Int) : Bool := decide (-140737488355328 < v) && decide (v < 140737488355328)
theorem isW_iff {v : Int} : isW v = true ↔ -140737488355328 < v ∧ v < 140737488355328 := by simp [isW]
theorem fxGood_any (v : Int) (w : World) : Calls Tryz.prog 103 #[.int .i64 v] w fun e w' => e = .returned (.bool (isW v)) ∧ w = w' := by
  by_cases h1 : -140737488355328 < v
  · by_cases h2 : v < 140737488355328
    · have e1 : isW v = true := by unfold isW; rw [decide_eq_true h1, decide_eq_true h2]; rfl
      rw [e1]
      go_enter Tryz.func103, Tryz.ntmps103
      go_wp2
      go_ret
      exact ⟨rfl, rfl⟩
    · have e1 : isW v = false := by unfold isW; rw [decide_eq_true h1, decide_eq_false h2]; rfl
      rw [e1]
      go_enter Tryz.func103, Tryz.ntmps103
      go_wp2
      go_ret
      exact ⟨rfl, rfl⟩
  · have e1 : isW v = false := by unfold isW; rw [decide_eq_false h1]; rfl
    rw [e1]
    go_enter Tryz.func103, Tryz.ntmps103
    go_wp2
    go_ret
    exact ⟨rfl, rfl⟩
def wordV (x : Int) : Int := if isW x = true then x else 0
def wordE (x : Int) : Int := if isW x = true then 0 else 3
def RetV (v z : Int) (e : Ending) : Prop := e = .returned (.tuple #[.int .i64 v, .int .i64 z])
theorem word_any (v : Int) (w : World) : Calls Tryz.prog 108 #[.int .i64 v] w fun e w' => RetV (wordV v) (wordE v) e ∧ w = w' := by
  have hg := fun w => Lib.hid (fxGood_any v w)
  unfold wordV wordE
  cases h : isW v
  all_goals
    rw [h] at hg
    simp only [if_true, Bool.false_eq_true, if_false]
    go_enter Tryz.func108, Tryz.ntmps108
    go_wp2_with (first | (go_at_call 103; refine (hg _).out.mono ?_; rintro e w' ⟨rfl, rfl⟩))
    exact bodyPost_ret (by rw [results_tmp2 rfl]; go_simp) rfl ⟨rfl, rfl⟩
theorem narrow_any (h l : Int) (w : World) (a : WR h l) : Calls Tryz.prog 81 #[.agg #[.int .i64 h, .int .u64 l]] w fun e w' => RetV (wordV (V h l)) (wordE (V h l)) e ∧ Below w.heap.size w w' := by
  have hs := fun w => Lib.hid (small_any h l w a)
  by_cases hr : -9223372036854775808 ≤ V h l ∧ V h l ≤ 9223372036854775807
  · rw [if_pos hr, decide_eq_true hr] at hs
    have hw := fun w => Lib.hid (word_any (V h l) w)
    generalize V h l = X at hs hw ⊢
    generalize wordV X = XV at hw ⊢
    generalize wordE X = XE at hw ⊢
    clear hr
    go_enter Tryz.func81, Tryz.ntmps81
    go_wp2_with (first | (go_at_call 107; refine (hs _).out.mono ?_; rintro e w1 ⟨rfl, hb⟩; have HB1 := Lib.hid hb; clear hb) | (go_at_call 108; refine (hw _).out.mono ?_; rintro e w' ⟨he, rfl⟩; unfold RetV at he; subst he))
    exact bodyPost_ret (by rw [results_tmp2 rfl]; go_simp) rfl ⟨rfl, Below.trans (by (repeat' (first | exact Below.refl _ _ | refine Below.drew ?_ | refine Below.setCell ?_ (by first | omega | (simp <;> omega)) _ | refine Below.alloc ?_ (by first | omega | (simp <;> omega)) _))) (HB1.out.mono (by first | omega | (simp <;> omega)))⟩
  · rw [if_neg hr, decide_eq_false hr] at hs
    have e1 : isW (V h l) = false := by
      cases hb : isW (V h l) with
      | false => rfl
      | true => have := isW_iff.1 hb; omega
    have e2 : wordV (V h l) = 0 := by unfold wordV; rw [e1]; rfl
    have e3 : wordE (V h l) = 3 := by unfold wordE; rw [e1]; rfl
    rw [e2, e3]
    clear e1 e2 e3 hr
    go_enter Tryz.func81, Tryz.ntmps81
    go_wp2_with (first | (go_at_call 107; refine (hs _).out.mono ?_; rintro e w1 ⟨rfl, hb⟩; have HB1 := Lib.hid hb; clear hb))
    exact bodyPost_ret (by rw [results_tmp2 rfl]; go_simp) rfl ⟨rfl, Below.trans (by (repeat' (first | exact Below.refl _ _ | refine Below.drew ?_ | refine Below.setCell ?_ (by first | omega | (simp <;> omega)) _ | refine Below.alloc ?_ (by first | omega | (simp <;> omega)) _))) (HB1.out.mono (by first | omega | (simp <;> omega)))⟩
end Go.Proofs.YtadlnmckcnfacaaGreat
namespace Go.Proofs.YtadlnmckcnfacaaGreat
open Go.RowKit Go.Rt
attribute [local go_sem] run_add run_subI
end Go.Proofs.YtadlnmckcnfacaaGreat
namespace Go.Proofs.YtadlnmckcnfacaaGreat
open Go.RowKit Go.Rt
end Go.Proofs.YtadlnmckcnfacaaGreat
namespace Go.Proofs.YtadlnmckcnfacaaGreat
open Go.ChangeShapes Go.WideShapes Go.RowKit Go.Rt
structure PairAt (w : World) (hi b o : Nat) (ah al bh bl x y n : Int) : Prop where
  lt : b < hi
  c0 : w.cell? ⟨b, o, none⟩ = some (.int .i64 ah)
  c1 : w.cell? ⟨b, o + 1, none⟩ = some (.int .u64 al)
  c2 : w.cell? ⟨b, o + 2, none⟩ = some (.int .i64 bh)
  c3 : w.cell? ⟨b, o + 3, none⟩ = some (.int .u64 bl)
  c4 : w.cell? ⟨b, o + 4, none⟩ = some (.int .i64 x)
  c5 : w.cell? ⟨b, o + 5, none⟩ = some (.int .i64 y)
  c6 : w.cell? ⟨b, o + 6, none⟩ = some (.int .i64 n)
  a : WR ah al
  b' : WR bh bl
  x0 : -9223372036854775808 ≤ x
  x1 : x ≤ 9223372036854775807
  y0 : -9223372036854775808 ≤ y
  y1 : y ≤ 9223372036854775807
  n0 : -9223372036854775808 ≤ n
  n1 : n ≤ 9223372036854775807
theorem PairAt.below {w w' : World} {hi b o : Nat} {ah al bh bl x y n : Int} (h : PairAt w hi b o ah al bh bl x y n) (hb : Below hi w w') : PairAt w' hi b o ah al bh bl x y n :=
  ⟨h.lt, (hb.cell (p := ⟨b, o, none⟩) h.lt).trans h.c0, (hb.cell (p := ⟨b, o + 1, none⟩) h.lt).trans h.c1, (hb.cell (p := ⟨b, o + 2, none⟩) h.lt).trans h.c2, (hb.cell (p := ⟨b, o + 3, none⟩) h.lt).trans h.c3,
   (hb.cell (p := ⟨b, o + 4, none⟩) h.lt).trans h.c4, (hb.cell (p := ⟨b, o + 5, none⟩) h.lt).trans h.c5, (hb.cell (p := ⟨b, o + 6, none⟩) h.lt).trans h.c6, h.a, h.b', h.x0, h.x1, h.y0, h.y1, h.n0, h.n1⟩
end Go.Proofs.YtadlnmckcnfacaaGreat
namespace Go.Proofs.YtadlnmckcnfacaaGreat
open Go.RowKit Go.Rt
end Go.Proofs.YtadlnmckcnfacaaGreat
namespace Go.Proofs.YtadlnmckcnfacaaGreat
open Go.RowKit Go.Rt
variable (a b u d Y q r : Int)
end Go.Proofs.YtadlnmckcnfacaaGreat
namespace Go.Proofs.YtadlnmckcnfacaaGreat
open Go.RowKit Go.Rt
def downI (n d : Int) : Int :=
  if (decide (n < 0) != decide (d < 0)) = true then -(if ((decide (n < 0) != decide (d < 0)) && decide (¬ absI n % absI d = 0)) = true then absI n / absI d + 1 else absI n / absI d)
  else (if ((decide (n < 0) != decide (d < 0)) && decide (¬ absI n % absI d = 0)) = true then absI n / absI d + 1 else absI n / absI d)
def digF (B : Nat) : Nat → Nat → List Int
  | 0, _ => []
  | f + 1, m => if m = 0 then [] else ((m % B : Nat) : Int) :: digF B f (m / B)
def dig (B m : Nat) : List Int := digF B m m
def Rng (B : Nat) (xs : List Int) : Prop := ∀ x ∈ xs, 0 ≤ x ∧ x < B
theorem Rng.getD {B : Nat} {xs : List Int} (h : Rng B xs) (hB : 1 ≤ B) (k : Nat) : 0 ≤ xs[k]?.getD 0 ∧ xs[k]?.getD 0 < B := by
  by_cases hk : k < xs.length
  · rw [List.getElem?_eq_getElem hk]
    exact h _ (List.getElem_mem hk)
  · rw [List.getElem?_eq_none (by omega)]
    simp only [Option.getD_none]
    omega
structure NAt (w : World) (hi : Nat) (a : Option Addr) (c m : Nat) : Prop where
  li : Ints .u64 w hi a (dig 18446744073709551616 m)
  c1 : (dig 18446744073709551616 m).length ≤ c
  c2 : c ≤ 9223372036854775807
structure HAt (w : World) (hi : Nat) (a : Option Addr) (c m : Nat) : Prop where
  li : Ints .u32 w hi a (dig 4294967296 m)
  c1 : (dig 4294967296 m).length ≤ c
  c2 : c ≤ 9223372036854775807
theorem NAt.below {w w' : World} {hi B : Nat} {a : Option Addr} {c m : Nat} (h : NAt w hi a c m) (hb : Below B w w') (hB : hi ≤ B) : NAt w' hi a c m := ⟨h.li.below hb hB, h.c1, h.c2⟩
theorem NAt.mono {w : World} {hi hi' : Nat} {a : Option Addr} {c m : Nat} (h : NAt w hi a c m) (hh : hi ≤ hi') : NAt w hi' a c m := ⟨h.li.mono hh, h.c1, h.c2⟩
theorem NAt.next {w w' : World} {a : Option Addr} {c m : Nat} (h : NAt w w.heap.size a c m) (hb : Below w.heap.size w w') : NAt w' w'.heap.size a c m := (h.below hb (Nat.le_refl _)).mono hb.size
theorem HAt.below {w w' : World} {hi B : Nat} {a : Option Addr} {c m : Nat} (h : HAt w hi a c m) (hb : Below B w w') (hB : hi ≤ B) : HAt w' hi a c m := ⟨h.li.below hb hB, h.c1, h.c2⟩
theorem HAt.mono {w : World} {hi hi' : Nat} {a : Option Addr} {c m : Nat} (h : HAt w hi a c m) (hh : hi ≤ hi') : HAt w hi' a c m := ⟨h.li.mono hh, h.c1, h.c2⟩
theorem HAt.next {w w' : World} {a : Option Addr} {c m : Nat} (h : HAt w w.heap.size a c m) (hb : Below w.heap.size w w') : HAt w' w'.heap.size a c m := (h.below hb (Nat.le_refl _)).mono hb.size
def Fresh (B : Nat) (a : Option Addr) : Prop := ∀ x, a = some x → B ≤ x.block
theorem Fresh.mono {B B' : Nat} {a : Option Addr} (h : Fresh B a) (hb : B' ≤ B) : Fresh B' a := fun x hx => Nat.le_trans hb (h x hx)
structure NBox2 (w : World) (b : Nat) (v0 v1 : Value) : Prop where
  c0 : w.cell? ⟨b, 0, none⟩ = some v0
  c1 : w.cell? ⟨b, 1, none⟩ = some v1
  f0 : w.frozen? ⟨b, 0, none⟩ = false
  f1 : w.frozen? ⟨b, 1, none⟩ = false
theorem NBox2.below {w w' : World} {b n : Nat} {v0 v1 : Value} (h : NBox2 w b v0 v1) (hb : Below n w w') (hn : b < n) : NBox2 w' b v0 v1 :=
  ⟨(hb.cell (p := ⟨b, 0, none⟩) hn).trans h.c0, (hb.cell (p := ⟨b, 1, none⟩) hn).trans h.c1, (hb.frozen (p := ⟨b, 0, none⟩) hn).trans h.f0, (hb.frozen (p := ⟨b, 1, none⟩) hn).trans h.f1⟩
def sgnZ (neg : Bool) (m : Nat) : Int := if neg = true then -(m : Int) else (m : Int)
theorem sgnZ_self (z : Int) : sgnZ (decide (z < 0)) z.natAbs = z := by
  unfold sgnZ
  by_cases h : z < 0
  · simp [h]; omega
  · simp [h]; omega
structure ZEnv (B : Nat) (w0 W : World) (L : List (Nat × Value × Value)) (N : List (Option Addr × Nat × Nat)) : Prop where
  hB : B ≤ W.heap.size
  bel : Below B w0 W
  boxes : ∀ p ∈ L, NBox2 W p.1 p.2.1 p.2.2 ∧ p.1 < W.heap.size
  nums : ∀ p ∈ N, NAt W W.heap.size p.1 p.2.1 p.2.2
end Go.Proofs.YtadlnmckcnfacaaGreat
namespace Go.Proofs.YtadlnmckcnfacaaGreat
open Go.RowKit Go.Rt
variable {B : Nat} {w0 W W' : World} {L : List (Nat × Value × Value)} {N : List (Option Addr × Nat × Nat)}
theorem ZEnv.next (h : ZEnv B w0 W L N) (hb : Below W.heap.size W W') : ZEnv B w0 W' L N :=
  ⟨Nat.le_trans h.hB hb.size, h.bel.trans (hb.mono h.hB), fun p hp => ⟨(h.boxes p hp).1.below hb (h.boxes p hp).2, Nat.lt_of_lt_of_le (h.boxes p hp).2 hb.size⟩, fun p hp => (h.nums p hp).next hb⟩
theorem ZEnv.alloc (h : ZEnv B w0 W L N) (o : Obj) : ZEnv B w0 (W.alloc o) L N := h.next ((Below.refl _ _).alloc (Nat.le_refl _) _)
theorem ZEnv.lt (h : ZEnv B w0 W L N) (i : Nat) {b : Nat} {v0 v1 : Value} (hi : L[i]? = some (b, v0, v1)) : b < W.heap.size := (h.boxes _ (List.mem_of_getElem? hi)).2
def floorZ (x y : Int) : Int := sgnZ (decide (x < 0) != decide (y < 0)) (x.natAbs / y.natAbs) - (if ((decide (x < 0) != decide (y < 0)) && decide (0 < x.natAbs % y.natAbs)) = true then 1 else 0)
end Go.Proofs.YtadlnmckcnfacaaGreat
namespace Go.Proofs.YtadlnmckcnfacaaGreat
open Go.RowKit Go.Rt
structure NBox3 (w : World) (b : Nat) (v0 v1 v2 : Value) : Prop where
  c0 : w.cell? ⟨b, 0, none⟩ = some v0
  c1 : w.cell? ⟨b, 1, none⟩ = some v1
  c2 : w.cell? ⟨b, 2, none⟩ = some v2
  f0 : w.frozen? ⟨b, 0, none⟩ = false
  f1 : w.frozen? ⟨b, 1, none⟩ = false
  f2 : w.frozen? ⟨b, 2, none⟩ = false
theorem NBox3.below {w w' : World} {b n : Nat} {v0 v1 v2 : Value} (h : NBox3 w b v0 v1 v2) (hb : Below n w w') (hn : b < n) : NBox3 w' b v0 v1 v2 :=
  ⟨(hb.cell (p := ⟨b, 0, none⟩) hn).trans h.c0, (hb.cell (p := ⟨b, 1, none⟩) hn).trans h.c1, (hb.cell (p := ⟨b, 2, none⟩) hn).trans h.c2, (hb.frozen (p := ⟨b, 0, none⟩) hn).trans h.f0, (hb.frozen (p := ⟨b, 1, none⟩) hn).trans h.f1, (hb.frozen (p := ⟨b, 2, none⟩) hn).trans h.f2⟩
def nearZ (x m : Int) : Int :=
  if floorZ (x * 2) m / 2 * 2 = floorZ (x * 2) m then floorZ (x * 2) m / 2
  else if x * 2 - floorZ (x * 2) m * m = 0 ∧ floorZ (x * 2) m / 2 / 2 * 2 = floorZ (x * 2) m / 2 then floorZ (x * 2) m / 2
  else floorZ (x * 2) m / 2 + 1
theorem absI_pos {d : Int} (hd : d ≠ 0) : 1 ≤ absI d := by unfold absI; split <;> omega
theorem half_size {N D q r K : Int} (hD : 1 ≤ D) (hN : N = q * D + r) (h0 : 0 ≤ r) (h1 : r < D) (hK : K = if upR q r D = true then q + 1 else q) : 2 * absI (N - K * D) ≤ D ∧ (2 * absI (N - K * D) = D → K % 2 = 0) := by
  by_cases hu : upR q r D = true
  · rw [if_pos hu] at hK
    have e : N - K * D = r - D := by rw [hN, hK, Int.add_mul]; omega
    rw [e]
    unfold upR at hu
    simp only [Bool.or_eq_true, Bool.and_eq_true, decide_eq_true_eq] at hu
    unfold absI
    split <;> omega
  · rw [if_neg hu] at hK
    have e : N - K * D = r := by rw [hN, hK]; omega
    rw [e]
    unfold upR at hu
    simp only [Bool.or_eq_true, Bool.and_eq_true, decide_eq_true_eq, not_or, not_and] at hu
    unfold absI
    split <;> omega
theorem round_half (x d : Int) (hd : d ≠ 0) : 2 * absI (x - roundI x d * d) ≤ absI d ∧ (2 * absI (x - roundI x d * d) = absI d → roundI x d % 2 = 0) := by
  have hD := absI_pos hd
  have hN := Int.mul_ediv_add_emod (absI x) (absI d)
  have h0 := Int.emod_nonneg (absI x) (show absI d ≠ 0 by omega)
  have h1 := Int.emod_lt_of_pos (absI x) (show 0 < absI d by omega)
  obtain ⟨K, hK⟩ : ∃ K, K = if upR (absI x / absI d) (absI x % absI d) (absI d) = true then absI x / absI d + 1 else absI x / absI d := ⟨_, rfl⟩
  have hs := half_size hD (q := absI x / absI d) (r := absI x % absI d) (N := absI x) (by rw [Int.mul_comm]; exact hN.symm) h0 h1 hK
  have hR : roundI x d = if (decide (x < 0) != decide (d < 0)) = true then -K else K := by unfold roundI; rw [← hK]
  obtain ⟨D, hDe⟩ : ∃ D, absI d = D := ⟨_, rfl⟩
  obtain ⟨N, hNe⟩ : ∃ N, absI x = N := ⟨_, rfl⟩
  rw [hDe, hNe] at hs
  rw [hDe]
  have key : absI (x - roundI x d * d) = absI (N - K * D) := by
    by_cases a : x < 0
    · have ex : x = -N := by rw [← hNe]; unfold absI; rw [if_pos a]; omega
      by_cases b : d < 0
      · have ed : d = -D := by rw [← hDe]; unfold absI; rw [if_pos b]; omega
        rw [hR, decide_eq_true a, decide_eq_true b, if_neg (by decide)]
        have e : x - K * d = -(N - K * D) := by rw [ex, ed, Int.mul_neg]; omega
        rw [e]
        unfold absI
        split <;> split <;> omega
      · have ed : d = D := by rw [← hDe]; unfold absI; rw [if_neg b]
        rw [hR, decide_eq_true a, decide_eq_false b, if_pos (by decide)]
        have e : x - -K * d = -(N - K * D) := by rw [ex, ed, Int.neg_mul]; omega
        rw [e]
        unfold absI
        split <;> split <;> omega
    · have ex : x = N := by rw [← hNe]; unfold absI; rw [if_neg a]
      by_cases b : d < 0
      · have ed : d = -D := by rw [← hDe]; unfold absI; rw [if_pos b]; omega
        rw [hR, decide_eq_false a, decide_eq_true b, if_pos (by decide)]
        have e : x - -K * d = N - K * D := by rw [ex, ed, Int.neg_mul_neg]
        rw [e]
      · have ed : d = D := by rw [← hDe]; unfold absI; rw [if_neg b]
        rw [hR, decide_eq_false a, decide_eq_false b, if_neg (by decide)]
        rw [← ex, ← ed]
  rw [key]
  refine ⟨hs.1, fun h => ?_⟩
  have := hs.2 h
  rw [hR]
  split <;> omega
theorem absI_neg' (s : Int) : absI (-s) = absI s := by unfold absI; split <;> split <;> omega
theorem absI_natAbs (s : Int) : absI s = (s.natAbs : Int) := by unfold absI; split <;> omega
def ratX (x y : Int) : Int := if y < 0 then -x else x
def ratQ (x y : Int) : Int := sgnZ (decide (ratX x y < 0)) ((ratX x y).natAbs / Nat.gcd (ratX x y).natAbs y.natAbs)
def ratK (x y : Int) : Nat := y.natAbs / Nat.gcd (ratX x y).natAbs y.natAbs
theorem ratK_pos {x y : Int} (hy : y ≠ 0) : 0 < ratK x y := Nat.div_pos (Nat.gcd_le_right _ (by omega)) (Nat.gcd_pos_of_pos_right _ (by omega))
theorem floor_down {x y : Int} : floorZ x y = downI x y := by
  have e1 : absI x = (x.natAbs : Int) := absI_natAbs x
  have e2 : absI y = (y.natAbs : Int) := absI_natAbs y
  unfold floorZ downI
  rw [e1, e2, ← Int.natCast_ediv, ← Int.natCast_emod]
  generalize x.natAbs / y.natAbs = m
  generalize x.natAbs % y.natAbs = r
  have er : decide (¬ (r : Int) = 0) = decide (0 < r) := decide_eq_decide.2 (by omega)
  rw [er]
  unfold sgnZ
  cases hs : (decide (x < 0) != decide (y < 0))
  · simp
  · cases hr : decide (0 < r)
    · simp
    · simp; omega
def Nearest (x d K : Int) : Prop := 2 * absI (x - K * d) ≤ absI d ∧ (2 * absI (x - K * d) = absI d → K % 2 = 0)
theorem nearest_unique {x d K K' : Int} (hd : 0 < d) (h : Nearest x d K) (h' : Nearest x d K') : K = K' := by
  obtain ⟨a1, a2⟩ := h
  obtain ⟨b1, b2⟩ := h'
  have ed : absI d = d := by unfold absI; rw [if_neg (by omega)]
  rw [ed] at a1 a2 b1 b2
  have key : ∀ A B : Int, A < B → 2 * absI (x - A * d) ≤ d → (2 * absI (x - A * d) = d → A % 2 = 0) → 2 * absI (x - B * d) ≤ d → (2 * absI (x - B * d) = d → B % 2 = 0) → False := by
    intro A B hlt p1 p2 q1 q2
    obtain ⟨t, ht⟩ : ∃ t, B = A + 1 + t := ⟨B - A - 1, by omega⟩
    have ht0 : 0 ≤ t := by omega
    have e : B * d = A * d + d + t * d := by rw [ht, Int.add_mul, Int.add_mul, Int.one_mul]
    have htd : 0 ≤ t * d := Int.mul_nonneg ht0 (by omega)
    rw [e] at q1 q2
    generalize A * d = U at *
    have h1 : t * d = 0 := by
      unfold absI at p1 q1
      split at p1 <;> split at q1 <;> omega
    have ht1 : t = 0 := by
      rcases Int.mul_eq_zero.1 h1 with h | h
      · exact h
      · omega
    rw [h1] at q1 q2
    have h2 : 2 * absI (x - U) = d ∧ 2 * absI (x - (U + d + 0)) = d := by
      unfold absI at p1 q1 ⊢
      split at p1 <;> split at q1 <;> (repeat' split) <;> omega
    have := p2 h2.1
    have := q2 h2.2
    omega
  rcases Int.lt_trichotomy K K' with hlt | he | hgt
  · exact (key K K' hlt a1 a2 b1 b2).elim
  · exact he
  · exact (key K' K hgt b1 b2 a1 a2).elim
theorem nearest_round (x d : Int) (hd : d ≠ 0) : Nearest x d (roundI x d) := round_half x d hd
theorem nearest_scale {x d K g : Int} (hg : 0 < g) (h : Nearest x d K) : Nearest (g * x) (g * d) K := by
  obtain ⟨h1, h2⟩ := h
  have e : g * x - K * (g * d) = g * (x - K * d) := by rw [Int.mul_sub, Int.mul_left_comm]
  have ea : ∀ s : Int, absI (g * s) = g * absI s := fun s => by
    unfold absI
    by_cases hs : s < 0
    · rw [if_pos hs, if_pos (Int.mul_neg_of_pos_of_neg hg hs), Int.mul_neg]
    · rw [if_neg hs, if_neg (by have := Int.mul_nonneg (show 0 ≤ g by omega) (show 0 ≤ s by omega); omega)]
  unfold Nearest
  rw [e, ea, ea]
  have e2 : 2 * (g * absI (x - K * d)) = g * (2 * absI (x - K * d)) := Int.mul_left_comm _ _ _
  rw [e2]
  exact ⟨Int.mul_le_mul_of_nonneg_left h1 (by omega), fun he => h2 (Int.eq_of_mul_eq_mul_left (by omega) he)⟩
theorem nearZ_nearest (x m : Int) (hm : 0 < m) : Nearest x m (nearZ x m) := by
  have hfl : floorZ (x * 2) m = x * 2 / m := by
    have e := floor_down (x := x * 2) (y := m)
    rw [e]
    unfold downI
    have em : absI m = m := by unfold absI; rw [if_neg (by omega)]
    have nm : decide (m < 0) = false := by simp; omega
    rw [em, nm]
    have ea := Int.mul_ediv_add_emod (x * 2) m
    by_cases hx : x * 2 < 0
    · have ex : absI (x * 2) = -(x * 2) := by unfold absI; rw [if_pos hx]
      rw [ex, decide_eq_true hx]
      have eb := Int.mul_ediv_add_emod (-(x * 2)) m
      have r0 := Int.emod_nonneg (-(x * 2)) (show m ≠ 0 by omega)
      have r1 := Int.emod_lt_of_pos (-(x * 2)) hm
      generalize -(x * 2) / m = q at *
      generalize hr : -(x * 2) % m = r at *
      by_cases h0 : r = 0
      · have : x * 2 = m * (-q) := by rw [Int.mul_neg]; omega
        rw [this, Int.mul_ediv_cancel_left _ (by omega)]
        simp [h0]
      · have : x * 2 = (m - r) + m * (-(q + 1)) := by rw [Int.mul_neg, Int.mul_add, Int.mul_one]; omega
        rw [this, Int.add_mul_ediv_left _ _ (by omega), Int.ediv_eq_zero_of_lt (by omega) (by omega)]
        simp [h0]
    · have ex : absI (x * 2) = x * 2 := by unfold absI; rw [if_neg hx]
      rw [ex, decide_eq_false hx]
      simp
  unfold nearZ
  rw [hfl]
  have ea := Int.mul_ediv_add_emod (x * 2) m
  have r0 := Int.emod_nonneg (x * 2) (show m ≠ 0 by omega)
  have r1 := Int.emod_lt_of_pos (x * 2) hm
  have em : absI m = m := by unfold absI; rw [if_neg (by omega)]
  obtain ⟨q, hq⟩ : ∃ q, x * 2 / m = q := ⟨_, rfl⟩
  obtain ⟨r, hr⟩ : ∃ r, x * 2 % m = r := ⟨_, rfl⟩
  rw [hq] at ea ⊢
  rw [hr] at ea r0 r1
  rw [Int.mul_comm m q] at ea
  obtain ⟨h, s, hs, e⟩ : ∃ h s : Int, q / 2 = h ∧ q = 2 * h + s := ⟨q / 2, q % 2, rfl, by omega⟩
  have hsb : s = 0 ∨ s = 1 := by omega
  rw [hs]
  have eq : q * m = 2 * (h * m) + s * m := by rw [e, Int.add_mul, Int.mul_assoc]
  rw [eq] at ea
  unfold Nearest
  rw [em]
  rcases hsb with rfl | rfl
  · rw [if_pos (by omega)]
    rw [Int.zero_mul] at ea
    unfold absI
    split <;> omega
  · rw [if_neg (by omega)]
    rw [Int.one_mul] at ea
    split
    · rename_i hc
      obtain ⟨hc1, hc2⟩ := hc
      rw [eq, Int.one_mul] at hc1
      unfold absI
      split <;> omega
    · rename_i hc
      have e3 : (h + 1) * m = h * m + m := by rw [Int.add_mul, Int.one_mul]
      rw [e3]
      have hc2 : x * 2 - q * m = 0 → ¬ h / 2 * 2 = h := fun h1 h2 => hc ⟨h1, h2⟩
      rw [eq, Int.one_mul] at hc2
      generalize h * m = hm at *
      unfold absI
      split <;> omega
theorem near_round (x y : Int) (hy : y ≠ 0) : nearZ (ratQ x y) (ratK x y) = roundI x y := by
  have hkp : 0 < ratK x y := ratK_pos hy
  obtain ⟨G, hG⟩ : ∃ G, Nat.gcd (ratX x y).natAbs y.natAbs = G := ⟨_, rfl⟩
  have hG0 : 0 < G := by rw [← hG]; exact Nat.gcd_pos_of_pos_right _ (by omega)
  have d1 : G ∣ (ratX x y).natAbs := by rw [← hG]; exact Nat.gcd_dvd_left _ _
  have d2 : G ∣ y.natAbs := by rw [← hG]; exact Nat.gcd_dvd_right _ _
  have e1 : (G : Int) * ratQ x y = ratX x y := by
    unfold ratQ
    rw [hG]
    obtain ⟨t, ht⟩ := d1
    have e : (ratX x y).natAbs / G = t := by rw [ht, Nat.mul_div_cancel_left _ hG0]
    rw [e]
    have hself := sgnZ_self (ratX x y)
    rw [ht] at hself
    rw [← hself]
    conv => lhs; rw [hself]
    unfold sgnZ
    split
    · rw [Int.natCast_mul, Int.mul_neg]
    · rw [Int.natCast_mul]
  have e2 : (G : Int) * (ratK x y : Int) = (y.natAbs : Int) := by
    unfold ratK
    rw [hG, ← Int.natCast_mul, Nat.mul_div_cancel' d2]
  have hn := nearest_scale (g := (G : Int)) (by omega) (nearZ_nearest (ratQ x y) (ratK x y) (by omega))
  rw [e1, e2] at hn
  have hy0 : (0 : Int) < (y.natAbs : Int) := by omega
  refine nearest_unique hy0 hn ?_
  have hr := nearest_round x y hy
  unfold Nearest at hr ⊢
  unfold ratX
  have ea : absI (y.natAbs : Int) = absI y := by unfold absI; (repeat' split) <;> omega
  rw [ea]
  by_cases hneg : y < 0
  · rw [if_pos hneg]
    have e : -x - roundI x y * (y.natAbs : Int) = -(x - roundI x y * y) := by
      have : (y.natAbs : Int) = -y := by omega
      rw [this, Int.mul_neg]
      omega
    rw [e, absI_neg']
    exact hr
  · rw [if_neg hneg]
    have : (y.natAbs : Int) = y := by omega
    rw [this]
    exact hr
end Go.Proofs.YtadlnmckcnfacaaGreat
