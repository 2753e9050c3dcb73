/- Walks: sums, differences, signs, comparisons of wide numbers. -/
import Derived.Test.YtlbmpdidmckgkaaRows
import Derived.Test.YtlbmpdidmckgkaaBase
import Derived.Laws.BitsAllLaws
import Derived.ChangeKeysEq
import Derived.Laws.Externs
import Derived.Shelf.Spec.BitsCarry
set_option linter.unusedVariables false
set_option linter.unusedSimpArgs false
namespace Go.Proofs.Ytlbmpdidmckgkaa
open Go.RowKit Go.Rt

/-- The number that two words say. -/
def V (h l : Int) : Int := h * 18446744073709551616 + l
structure WR (h l : Int) : Prop where
  h0 : -9223372036854775808 ≤ h
  h1 : h ≤ 9223372036854775807
  l0 : 0 ≤ l
  l1 : l ≤ 18446744073709551615
def inR (s : Int) : Prop := -170141183460469231731687303715884105728 ≤ s ∧ s ≤ 170141183460469231731687303715884105727
def cmpI (a b : Int) : Int := if a = b then 0 else if a < b then -1 else 1
theorem wrapI (y : Int) : IntKind.i64.wrap y = (y + 9223372036854775808) % 18446744073709551616 - 9223372036854775808 := by
  rw [IntKind.wrap_i64]
theorem wrapU (y : Int) : IntKind.u64.wrap y = y % 18446744073709551616 := by
  simp [IntKind.wrap, IntKind.signed, IntKind.bits]

theorem run_add (x y c : Int) (hx : 0 ≤ x) (hy : 0 ≤ y) (hc0 : 0 ≤ c) (hc : c ≤ 1) (w : World) :
    (callFunc 61 #[.int .u64 x, .int .u64 y, .int .u64 c]).run Try.prog w = .ok (.value (.tuple #[.int .u64 ((x + y + c) % 18446744073709551616), .int .u64 ((x + y + c) / 18446744073709551616)])) w := by
  rw [run_callFunc_extern Try.func61 (by kernel_rfl) (by kernel_rfl) (by kernel_rfl) (e := add64Entry) (by kernel_rfl), run_add64 x y c hx hy hc0 hc]
  rfl
theorem run_sub (x y b : Nat) (hb : b ≤ 1) (w : World) :
    (callFunc 57 #[.int .u64 x, .int .u64 y, .int .u64 b]).run Try.prog w =
      .ok (.value (.tuple #[.int .u64 (((x + 18446744073709551616 - y - b) % 18446744073709551616 : Nat) : Int), .int .u64 ((if x < y + b then 1 else 0 : Nat) : Int)])) w := by
  rw [run_callFunc_extern Try.func57 (by kernel_rfl) (by kernel_rfl) (by kernel_rfl) (e := sub64Entry) (by kernel_rfl), run_sub64 x y b hb]
  rfl
theorem run_subI (x y b : Int) (hx : 0 ≤ x) (hx1 : x ≤ 18446744073709551615) (hy : 0 ≤ y) (hy1 : y ≤ 18446744073709551615) (hb0 : 0 ≤ b) (hb : b ≤ 1) (w : World) :
    (callFunc 57 #[.int .u64 x, .int .u64 y, .int .u64 b]).run Try.prog w = .ok (.value (.tuple #[.int .u64 ((x - y - b) % 18446744073709551616), .int .u64 (-((x - y - b) / 18446744073709551616))])) w := by
  obtain ⟨X, rfl⟩ := Int.eq_ofNat_of_zero_le hx
  obtain ⟨Y, rfl⟩ := Int.eq_ofNat_of_zero_le hy
  obtain ⟨B, rfl⟩ := Int.eq_ofNat_of_zero_le hb0
  have := run_sub X Y B (by omega) w
  rw [this]
  have e1 : (((X + 18446744073709551616 - Y - B) % 18446744073709551616 : Nat) : Int) = ((X : Int) - Y - B) % 18446744073709551616 := by omega
  have e2 : ((if X < Y + B then 1 else 0 : Nat) : Int) = -(((X : Int) - Y - B) / 18446744073709551616) := by split <;> omega
  rw [e1, e2]
attribute [local go_sem] run_add run_subI

theorem num1_any (x : Int) (w : World) : Calls Try.prog 20 #[.int .i64 x] w fun e w' => e = .returned (.int .i64 x) ∧ w = w' := by
  go_enter Try.func20, Try.ntmps20
  go_wp2
  go_ret
  exact ⟨rfl, rfl⟩

def RetW (w : World) (h l : Int) (e : Ending) (w' : World) : Prop := e = .returned (.agg #[.int .i64 h, .int .u64 l]) ∧ Below w.heap.size w w'
def RetWE (w : World) (h l z : Int) (e : Ending) (w' : World) : Prop := e = .returned (.tuple #[.agg #[.int .i64 h, .int .u64 l], .int .i64 z]) ∧ Below w.heap.size w w'

theorem results_c1 {fn : Func} {p : Tmp} {ty : TypeId} (h : fn.results = #[.cell p ty]) (tmps : Array Value) (P : Program) (w : World) :
    (results fn tmps).run P w = ((asAddr (tmps.getD p undef)).run P w).andThen fun a w₁ => (loadVar ty a).run P w₁ := by
  simp only [results, h]
  simp [Sem.run_bind, Result.andThen]
theorem results_ct {fn : Func} {p z : Tmp} {ty : TypeId} (h : fn.results = #[.cell p ty, .tmp z]) (tmps : Array Value) (P : Program) (w : World) :
    (results fn tmps).run P w = ((asAddr (tmps.getD p undef)).run P w).andThen fun a w₁ => ((loadVar ty a).run P w₁).andThen fun v w₂ => .ok (.tuple #[v, tmps.getD z undef]) w₂ := by
  simp only [results, h]
  simp [Sem.run_bind, Result.andThen]

theorem from_any (x : Int) (w : World) (h0 : -9223372036854775808 ≤ x) (h1 : x ≤ 9223372036854775807) :
    Calls Try.prog 18 #[.int .i64 x] w (RetW w (x / 9223372036854775808) (x % 18446744073709551616)) := by
  have hw : IntKind.u64.wrap x = x % 18446744073709551616 := wrapU x
  go_enter Try.func18, Try.ntmps18
  go_wp2
  exact bodyPost_ret (v := .agg #[.int .i64 (x / 9223372036854775808), .int .u64 (x % 18446744073709551616)]) (by rw [results_c1 rfl]; go_simp) rfl ⟨rfl, (by (repeat' (first | exact Below.refl _ _ | refine Below.drew ?_ | refine Below.setCell ?_ (by first | omega | (simp <;> omega)) _ | refine Below.alloc ?_ (by first | omega | (simp <;> omega)) _)))⟩

/-- The page's From: the same. -/
theorem ref1From_any (x : Int) (w : World) (h0 : -9223372036854775808 ≤ x) (h1 : x ≤ 9223372036854775807) :
    Calls Try.prog 34 #[.int .i64 x] w (RetW w (x / 9223372036854775808) (x % 18446744073709551616)) := by
  have hw : IntKind.u64.wrap x = x % 18446744073709551616 := wrapU x
  by_cases hx : x < 0
  · have e : x / 9223372036854775808 = -1 := by omega
    rw [e]
    go_enter Try.func34, Try.ntmps34
    go_wp2
    exact bodyPost_ret (v := .agg #[.int .i64 (-1), .int .u64 (x % 18446744073709551616)]) (by rw [results_c1 rfl]; go_simp) rfl ⟨rfl, (by (repeat' (first | exact Below.refl _ _ | refine Below.drew ?_ | refine Below.setCell ?_ (by first | omega | (simp <;> omega)) _ | refine Below.alloc ?_ (by first | omega | (simp <;> omega)) _)))⟩
  · have e : x / 9223372036854775808 = 0 := by omega
    rw [e]
    go_enter Try.func34, Try.ntmps34
    go_wp2
    exact bodyPost_ret (v := .agg #[.int .i64 0, .int .u64 (x % 18446744073709551616)]) (by rw [results_c1 rfl]; go_simp) rfl ⟨rfl, (by (repeat' (first | exact Below.refl _ _ | refine Below.drew ?_ | refine Below.setCell ?_ (by first | omega | (simp <;> omega)) _ | refine Below.alloc ?_ (by first | omega | (simp <;> omega)) _)))⟩


theorem add_in (h l h' l' : Int) (w : World) (a : WR h l) (b : WR h' l') (hin : inR (V h l + V h' l')) :
    Calls Try.prog 33 #[.agg #[.int .i64 h, .int .u64 l], .agg #[.int .i64 h', .int .u64 l']] w (RetWE w ((V h l + V h' l') / 18446744073709551616) ((V h l + V h' l') % 18446744073709551616) 0) := by
  obtain ⟨a0, a1, a2, a3⟩ := a
  obtain ⟨b0, b1, b2, b3⟩ := b
  unfold inR V at hin
  have hL : V h l + V h' l' = V h l + V h' l' := rfl
  obtain ⟨HI, hH⟩ : ∃ y, (V h l + V h' l') / 18446744073709551616 = y := ⟨_, rfl⟩
  obtain ⟨LO, hLO⟩ : ∃ y, (V h l + V h' l') % 18446744073709551616 = y := ⟨_, rfl⟩
  rw [hH, hLO]
  unfold V at hH hLO
  have e1 : RowKit.wrap64 (RowKit.wrap64 (h + h') + (l + l') / 18446744073709551616) = HI := by unfold RowKit.wrap64; omega
  have e2 : (l + l') % 18446744073709551616 = LO := by omega
  have e0 : h + h' + (l + l') / 18446744073709551616 = HI := by omega
  have es : h < 0 ∨ ¬ h < 0 := by omega
  have es' : h' < 0 ∨ ¬ h' < 0 := by omega
  have eh : HI < 0 ∨ ¬ HI < 0 := by omega
  have hk : (h < 0 ∧ h' < 0 → HI < 0) ∧ (¬ h < 0 ∧ ¬ h' < 0 → ¬ HI < 0) := by constructor <;> intro hh <;> omega
  clear hH hLO hin
  rcases es with es | es <;> rcases es' with es' | es' <;> rcases eh with eh | eh
  all_goals first
    | (exfalso; obtain ⟨k1, k2⟩ := hk; first | exact eh (k1 ⟨es, es'⟩) | exact k2 ⟨es, es'⟩ eh)
    | (clear hk
       go_enter Try.func33, Try.ntmps33
       go_wp2
       exact bodyPost_ret (v := .tuple #[.agg #[.int .i64 HI, .int .u64 LO], .int .i64 0]) (by rw [results_ct rfl]; go_simp <;> omega) rfl ⟨rfl, (by (repeat' (first | exact Below.refl _ _ | refine Below.drew ?_ | refine Below.setCell ?_ (by first | omega | (simp <;> omega)) _ | refine Below.alloc ?_ (by first | omega | (simp <;> omega)) _)))⟩)

theorem add_out (h l h' l' : Int) (w : World) (a : WR h l) (b : WR h' l') (hin : ¬ inR (V h l + V h' l')) :
    Calls Try.prog 33 #[.agg #[.int .i64 h, .int .u64 l], .agg #[.int .i64 h', .int .u64 l']] w (RetWE w 0 0 3) := by
  obtain ⟨a0, a1, a2, a3⟩ := a
  obtain ⟨b0, b1, b2, b3⟩ := b
  unfold inR V at hin
  obtain ⟨HI, e1⟩ : ∃ y, RowKit.wrap64 (RowKit.wrap64 (h + h') + (l + l') / 18446744073709551616) = y := ⟨_, rfl⟩
  have hH := e1
  unfold RowKit.wrap64 at hH
  have es : h < 0 ∨ ¬ h < 0 := by omega
  have hk : (h < 0 → h' < 0 ∧ ¬ HI < 0) ∧ (¬ h < 0 → ¬ h' < 0 ∧ HI < 0) := by constructor <;> intro hh <;> omega
  clear hH hin
  rcases es with es | es
  · obtain ⟨es', eh⟩ := hk.1 es
    clear hk
    go_enter Try.func33, Try.ntmps33
    go_wp2
    exact bodyPost_ret (v := .tuple #[.agg #[.int .i64 0, .int .u64 0], .int .i64 3]) (by rw [results_ct rfl]; go_simp <;> omega) rfl ⟨rfl, (by (repeat' (first | exact Below.refl _ _ | refine Below.drew ?_ | refine Below.setCell ?_ (by first | omega | (simp <;> omega)) _ | refine Below.alloc ?_ (by first | omega | (simp <;> omega)) _)))⟩
  · obtain ⟨es', eh⟩ := hk.2 es
    clear hk
    go_enter Try.func33, Try.ntmps33
    go_wp2
    exact bodyPost_ret (v := .tuple #[.agg #[.int .i64 0, .int .u64 0], .int .i64 3]) (by rw [results_ct rfl]; go_simp <;> omega) rfl ⟨rfl, (by (repeat' (first | exact Below.refl _ _ | refine Below.drew ?_ | refine Below.setCell ?_ (by first | omega | (simp <;> omega)) _ | refine Below.alloc ?_ (by first | omega | (simp <;> omega)) _)))⟩

theorem sub_in (h l h' l' : Int) (w : World) (a : WR h l) (b : WR h' l') (hin : inR (V h l - V h' l')) :
    Calls Try.prog 28 #[.agg #[.int .i64 h, .int .u64 l], .agg #[.int .i64 h', .int .u64 l']] w (RetWE w ((V h l - V h' l') / 18446744073709551616) ((V h l - V h' l') % 18446744073709551616) 0) := by
  obtain ⟨a0, a1, a2, a3⟩ := a
  obtain ⟨b0, b1, b2, b3⟩ := b
  unfold inR V at hin
  have hL : V h l - V h' l' = V h l - V h' l' := rfl
  obtain ⟨HI, hH⟩ : ∃ y, (V h l - V h' l') / 18446744073709551616 = y := ⟨_, rfl⟩
  obtain ⟨LO, hLO⟩ : ∃ y, (V h l - V h' l') % 18446744073709551616 = y := ⟨_, rfl⟩
  rw [hH, hLO]
  unfold V at hH hLO
  have e1 : RowKit.wrap64 (RowKit.wrap64 (h - h') + (l - l') / 18446744073709551616) = HI := by unfold RowKit.wrap64; omega
  have e2 : (l - l') % 18446744073709551616 = LO := by omega
  have e0 : h - h' + (l - l') / 18446744073709551616 = HI := by omega
  have es : h < 0 ∨ ¬ h < 0 := by omega
  have es' : h' < 0 ∨ ¬ h' < 0 := by omega
  have eh : HI < 0 ∨ ¬ HI < 0 := by omega
  have hk : (h < 0 ∧ ¬ h' < 0 → HI < 0) ∧ (¬ h < 0 ∧ h' < 0 → ¬ HI < 0) := by constructor <;> intro hh <;> omega
  clear hH hLO hin
  rcases es with es | es <;> rcases es' with es' | es' <;> rcases eh with eh | eh
  all_goals first
    | (exfalso; obtain ⟨k1, k2⟩ := hk; first | exact eh (k1 ⟨es, es'⟩) | exact k2 ⟨es, es'⟩ eh)
    | (clear hk
       go_enter Try.func28, Try.ntmps28
       go_wp2
       exact bodyPost_ret (v := .tuple #[.agg #[.int .i64 HI, .int .u64 LO], .int .i64 0]) (by rw [results_ct rfl]; go_simp <;> omega) rfl ⟨rfl, (by (repeat' (first | exact Below.refl _ _ | refine Below.drew ?_ | refine Below.setCell ?_ (by first | omega | (simp <;> omega)) _ | refine Below.alloc ?_ (by first | omega | (simp <;> omega)) _)))⟩)

theorem sub_out (h l h' l' : Int) (w : World) (a : WR h l) (b : WR h' l') (hin : ¬ inR (V h l - V h' l')) :
    Calls Try.prog 28 #[.agg #[.int .i64 h, .int .u64 l], .agg #[.int .i64 h', .int .u64 l']] w (RetWE w 0 0 3) := by
  obtain ⟨a0, a1, a2, a3⟩ := a
  obtain ⟨b0, b1, b2, b3⟩ := b
  unfold inR V at hin
  obtain ⟨HI, e1⟩ : ∃ y, RowKit.wrap64 (RowKit.wrap64 (h - h') + (l - l') / 18446744073709551616) = y := ⟨_, rfl⟩
  have hH := e1
  unfold RowKit.wrap64 at hH
  have es : h < 0 ∨ ¬ h < 0 := by omega
  have hk : (h < 0 → ¬ h' < 0 ∧ ¬ HI < 0) ∧ (¬ h < 0 → h' < 0 ∧ HI < 0) := by constructor <;> intro hh <;> omega
  clear hH hin
  rcases es with es | es
  · obtain ⟨es', eh⟩ := hk.1 es
    clear hk
    go_enter Try.func28, Try.ntmps28
    go_wp2
    exact bodyPost_ret (v := .tuple #[.agg #[.int .i64 0, .int .u64 0], .int .i64 3]) (by rw [results_ct rfl]; go_simp <;> omega) rfl ⟨rfl, (by (repeat' (first | exact Below.refl _ _ | refine Below.drew ?_ | refine Below.setCell ?_ (by first | omega | (simp <;> omega)) _ | refine Below.alloc ?_ (by first | omega | (simp <;> omega)) _)))⟩
  · obtain ⟨es', eh⟩ := hk.2 es
    clear hk
    go_enter Try.func28, Try.ntmps28
    go_wp2
    exact bodyPost_ret (v := .tuple #[.agg #[.int .i64 0, .int .u64 0], .int .i64 3]) (by rw [results_ct rfl]; go_simp <;> omega) rfl ⟨rfl, (by (repeat' (first | exact Below.refl _ _ | refine Below.drew ?_ | refine Below.setCell ?_ (by first | omega | (simp <;> omega)) _ | refine Below.alloc ?_ (by first | omega | (simp <;> omega)) _)))⟩
end Go.Proofs.Ytlbmpdidmckgkaa
/- Walks: comparisons and signs of wide numbers. -/
set_option linter.unusedVariables false
set_option linter.unusedSimpArgs false
namespace Go.Proofs.Ytlbmpdidmckgkaa
open Go.RowKit Go.Rt

theorem cmp_any (h l h' l' : Int) (w : World) (a : WR h l) (b : WR h' l') :
    Calls Try.prog 31 #[.agg #[.int .i64 h, .int .u64 l], .agg #[.int .i64 h', .int .u64 l']] w fun e w' => e = .returned (.int .i64 (cmpI (V h l) (V h' l'))) ∧ Below w.heap.size w w' := by
  obtain ⟨a0, a1, a2, a3⟩ := a
  obtain ⟨b0, b1, b2, b3⟩ := b
  go_enter Try.func31, Try.ntmps31
  go_wp2
  all_goals (try simp only [Exit.inBlock, Exit.then])
  all_goals go_ret
  all_goals refine ⟨ret_int ?_, (by (repeat' (first | exact Below.refl _ _ | refine Below.drew ?_ | refine Below.setCell ?_ (by first | omega | (simp <;> omega)) _ | refine Below.alloc ?_ (by first | omega | (simp <;> omega)) _)))⟩
  all_goals (unfold cmpI V; (repeat' split) <;> omega)

theorem sign_any (h l : Int) (w : World) (a : WR h l) :
    Calls Try.prog 32 #[.agg #[.int .i64 h, .int .u64 l]] w fun e w' => e = .returned (.int .i64 (cmpI (V h l) 0)) ∧ Below w.heap.size w w' := by
  obtain ⟨a0, a1, a2, a3⟩ := a
  go_enter Try.func32, Try.ntmps32
  go_wp2
  all_goals (try simp only [Exit.inBlock, Exit.then])
  all_goals go_ret
  all_goals refine ⟨ret_int ?_, (by (repeat' (first | exact Below.refl _ _ | refine Below.drew ?_ | refine Below.setCell ?_ (by first | omega | (simp <;> omega)) _ | refine Below.alloc ?_ (by first | omega | (simp <;> omega)) _)))⟩
  all_goals (unfold cmpI V; (repeat' split))
  all_goals first | omega | (simp at *; omega)

theorem small_any (h l : Int) (w : World) (a : WR h l) :
    Calls Try.prog 19 #[.agg #[.int .i64 h, .int .u64 l]] w fun e w' => e = .returned (.tuple #[.int .i64 (if -9223372036854775808 ≤ V h l ∧ V h l ≤ 9223372036854775807 then V h l else 0), .bool (decide (-9223372036854775808 ≤ V h l ∧ V h l ≤ 9223372036854775807))]) ∧ Below w.heap.size w w' := by
  obtain ⟨a0, a1, a2, a3⟩ := a
  by_cases hr : -9223372036854775808 ≤ V h l ∧ V h l ≤ 9223372036854775807
  · rw [if_pos hr, decide_eq_true hr]
    unfold V at hr ⊢
    have e1 : RowKit.wrap64 l = h * 18446744073709551616 + l := by unfold RowKit.wrap64; omega
    have e2 : (h * 18446744073709551616 + l) / 9223372036854775808 = h := by omega
    go_enter Try.func19, Try.ntmps19
    go_wp2
    exact bodyPost_ret (by rw [results_tmp2 rfl]; go_simp <;> omega) rfl ⟨rfl, (by (repeat' (first | exact Below.refl _ _ | refine Below.drew ?_ | refine Below.setCell ?_ (by first | omega | (simp <;> omega)) _ | refine Below.alloc ?_ (by first | omega | (simp <;> omega)) _)))⟩
  · rw [if_neg hr, decide_eq_false hr]
    unfold V at hr
    obtain ⟨Z, hZ⟩ : ∃ y, RowKit.wrap64 l = y := ⟨_, rfl⟩
    have e2 : ¬ Z / 9223372036854775808 = h := by rw [← hZ]; unfold RowKit.wrap64; omega
    have e3 : (Z / 9223372036854775808 == h) = false := by simp; exact e2
    go_enter Try.func19, Try.ntmps19
    go_wp2
    exact bodyPost_ret (by rw [results_tmp2 rfl]; go_simp <;> omega) rfl ⟨rfl, (by (repeat' (first | exact Below.refl _ _ | refine Below.drew ?_ | refine Below.setCell ?_ (by first | omega | (simp <;> omega)) _ | refine Below.alloc ?_ (by first | omega | (simp <;> omega)) _)))⟩

theorem sgn_any (x y : Int) (w : World) :
    Calls Try.prog 35 #[.int .i64 x, .int .i64 y] w fun e w' => e = .returned (.int .i64 (cmpI x y)) ∧ Below w.heap.size w w' := by
  go_enter Try.func35, Try.ntmps35
  go_wp2
  all_goals (try simp only [Exit.inBlock, Exit.then])
  all_goals go_ret
  all_goals refine ⟨ret_int ?_, (by (repeat' (first | exact Below.refl _ _ | refine Below.drew ?_ | refine Below.setCell ?_ (by first | omega | (simp <;> omega)) _ | refine Below.alloc ?_ (by first | omega | (simp <;> omega)) _)))⟩
  all_goals (unfold cmpI; (repeat' split) <;> omega)

end Go.Proofs.Ytlbmpdidmckgkaa
