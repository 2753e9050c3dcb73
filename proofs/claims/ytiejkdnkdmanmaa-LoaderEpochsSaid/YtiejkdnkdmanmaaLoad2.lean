/- Walks: the next batch. -/
import Derived.Test.YtiejkdnkdmanmaaLoad1
import Derived.Test.YtiejkdnkdmanmaaFr
import Derived.Test.YtiejkdnkdmanmaaInv
import Derived.Deep.CutBlock
import Derived.Deep.CutRange
set_option linter.unusedVariables false
set_option linter.unusedSimpArgs false
namespace Go.Proofs.Ytiejkdnkdmanmaa
open Go.RowKit Go.Rt
attribute [local go_sem] run_eql_slice_nil'
set_option maxRecDepth 100000 in
set_option maxHeartbeats 400000 in
theorem clone_any (a : Option Addr) (c : Nat) (xs : List Int) (w : World) (h : Ints .i64 w w.heap.size a xs) (hn : xs.length ≤ 17592186044415) :
    Calls Try.prog 78 #[.slice a xs.length c] w (RetInts w xs) := by
  cases a with
  | none =>
    have hx : xs = [] := by
      cases xs with
      | nil => rfl
      | cons x r =>
        obtain ⟨b, off, e, _⟩ := h.cell 0 (by simp)
        simp at e
    subst hx
    go_enter Try.func78, Try.ntmps78
    go_wp2
    go_ret
    exact ⟨_, rfl, World.ownsRow_nil _ _ _ _, Below.refl _ _⟩
  | some ad =>
    have hnews : ∀ j u, (xs.map (Value.int .i64))[j]? = some u → (w.alloc (.cells #[] 3)).cell? (ad.add j) = some u := by
      intro j u hj
      have hjl : j < xs.length := by
        have := (List.getElem?_eq_some_iff.1 hj).1
        simpa using this
      obtain ⟨b, off, e, hlt, hc⟩ := h.cell j hjl
      simp at e
      subst e
      rw [Addr.add_lit]
      rw [(((Below.refl _ w).alloc (Nat.le_refl _) _).cell (p := ⟨b, off + j, none⟩) hlt).trans hc]
      simp [hjl] at hj
      rw [← hj]
      simp [hjl]
    obtain ⟨i, hi, hz0, hz1, hz2⟩ := info_parts infoInt
    go_enter Try.func78, Try.ntmps78
    go_wp2_with (at_builtin; (refine wpList_append_own _ rfl _ _ 46 rfl w.heap.size 3 i (.int .i64 0) 1 8 Try.underlying46 hi hz0 hz1 hz2 rfl (by decide) _ 0 [] rfl (World.ownsRow_made w #[] 0 (Nat.le_refl _) (by unfold maxLen; omega) (by simp)) ad xs.length c (xs.map (Value.int .i64)) rfl (by simp) hnews (by simp [Value.oneCell']) (by unfold maxLen; omega) (by omega) (by simp) ?_); intro v' w1 hown1 hgrow1 _)
    go_ret
    refine ⟨_, rfl, by simpa using hown1, ?_⟩
    refine ((Below.refl _ w).alloc (Nat.le_refl _) _).grown hgrow1 (by simp) (fun j hj => ?_)
    cases hj
    exact Nat.le_refl _

theorem lst7 {α : Type} {l : List α} (h : l.length = 7) : ∃ x0 x1 x2 x3 x4 x5 x6, l = [x0, x1, x2, x3, x4, x5, x6] := by
  match l, h with
  | [x0, x1, x2, x3, x4, x5, x6], _ => exact ⟨x0, x1, x2, x3, x4, x5, x6, rfl⟩
theorem lst9 {α : Type} {l : List α} (h : l.length = 9) : ∃ x0 x1 x2 x3 x4 x5 x6 x7 x8, l = [x0, x1, x2, x3, x4, x5, x6, x7, x8] := by
  match l, h with
  | [x0, x1, x2, x3, x4, x5, x6, x7, x8], _ => exact ⟨x0, x1, x2, x3, x4, x5, x6, x7, x8, rfl⟩

theorem isRow_carries (base : Nat) (e : TypeId) (n : Nat) (xs : List Value) : Carries (IsRow base e n xs) := by
  rintro u w w' ⟨a, c, h1, h3⟩ hb
  exact ⟨a, c, h1, own_below h3 hb (Nat.le_refl _)⟩
theorem isGen2_carries (base : Nat) (xs : List Int) (s : St) : Carries (fun u W => ∃ a c, u = .agg #[.slice a xs.length c, .int .u64 (s.a : Nat), .int .u64 (s.b : Nat), .int .u64 (s.c : Nat), .int .u64 (s.d : Nat)] ∧ W.ownsRow base 24 1 (.slice a xs.length c) xs.length (xs.map (Value.int .u64))) := by
  rintro u w w' ⟨a, c, h1, h3⟩ hb
  exact ⟨a, c, h1, own_below h3 hb (Nat.le_refl _)⟩
/-- loader.batches: a closure over variables that hold the cursor and how many at once. -/
theorem batches_any (a : Option Addr) (n c : Nat) (at_ ep m : Int) (w : World) :
    Calls Try.prog 81 #[.agg #[.slice a n c, .int .i64 at_, .int .i64 ep], .int .i64 m] w fun e w' => e = .returned (.func (.func 91) #[] #[.pointer (some ⟨w.heap.size, 0, none⟩), .pointer (some ⟨w.heap.size + 1, 0, none⟩)]) ∧ w' = (w.alloc (.cells #[.slice a n c, .int .i64 at_, .int .i64 ep] 73)).alloc (.cells #[.int .i64 m] 3) := by
  go_enter Try.func81, Try.ntmps81
  go_wp2
  go_ret
  exact ⟨by simp, rfl⟩
attribute [local go_sem] Oper.semAt_some
set_option maxRecDepth 100000 in
set_option maxHeartbeats 1000000 in
/-- The iterator, called at yield of loop l, where the first round ends the loop. -/
theorem batchIter (n : Nat) (hn : 3 ≤ n) (l B C : Nat) (a : Nat) (off cap k at_ size : Nat) (ep : Int) (W : World) (Jx : World → Prop) (hat : at_ < k) (hk : k ≤ cap) (hcap : cap ≤ 9223372036854775807) (hk2 : k ≤ 65536) (hs1 : 1 ≤ size) (hs2 : size ≤ 4096)
    (h0 : W.cell? ⟨B, 0, none⟩ = some (.slice (some ⟨a, off, none⟩) k cap)) (h1 : W.cell? ⟨B, 1, none⟩ = some (.int .i64 (at_ : Int))) (h2 : W.cell? ⟨C, 0, none⟩ = some (.int .i64 (size : Int)))
    (hY : YieldAt Fence.wide (n - 1) Try.prog l #[.slice (some ⟨a, off + at_, none⟩) (min (at_ + size) k - at_) (cap - at_), .int .i64 ((min (at_ + size) k : Nat) : Int)] W fun e W' => e = .returned (.bool false) ∧ Jx W') :
    CallsIn Fence.wide n Try.prog 91 #[.func (.yield l) #[] #[], .pointer (some ⟨B, 0, none⟩), .pointer (some ⟨C, 0, none⟩)] W fun e W' => (∃ v, e = .returned v) ∧ Jx W' := by
  refine callsIn_of_wp Try.func91 rfl trivial ?_ rfl
  simp only [Try.ntmps91, List.size_toArray, List.length_cons, List.length_nil, Nat.reduceAdd, Nat.reduceSub, Array.replicate_succ, Array.replicate_zero, List.push_toArray, List.append_toArray, List.nil_append, List.cons_append]
  refine wpIn_wide.2 (wp_scope_straight (wpIn_wide (n := n).1 ?_))
  have e1 : ((at_ : Int) == (k : Int)) = false := by simp; omega
  have hne : ¬ cap = at_ := by omega
  obtain ⟨fn, tmps, assign, body, hy, hR⟩ := hY
  have HR := Lib.hid hR
  have h1n : 1 ≤ n := by omega
  clear hR
  by_cases hlt : at_ + size ≤ k
  · rw [Nat.min_eq_left (by omega)] at hy
    obtain ⟨m, hm⟩ : ∃ m, at_ + size = m := ⟨_, rfl⟩
    have e2 : ∀ [Inhabited Unit], (at_ : Int) + (size : Int) = (m : Int) := by intro _; omega
    rw [hm] at hy hlt
    have hm1 : at_ ≤ m := by omega
    clear hm
    gi_wp2
    refine wpIn_label ?_
    (repeat gi_step)
    refine wpIn_loop_once ?_
    gi_wp2
    refine HR.out.mono ?_
    rintro e W3 ⟨rfl, hj⟩
    have HJ := Lib.hid hj
    clear hj hy
    gi_wp2
    (try simp only [Exit.noGoto, Exit.inBlock, Exit.then])
    refine bodyPost_ret (results_none rfl _ _ _) rfl ?_
    exact ⟨⟨_, rfl⟩, HJ.out⟩
  · rw [Nat.min_eq_right (by omega)] at hy
    have hlt2 : (k : Int) < (at_ : Int) + (size : Int) := by omega
    gi_wp2
    refine wpIn_label ?_
    (repeat gi_step)
    refine wpIn_loop_once ?_
    gi_wp2
    refine HR.out.mono ?_
    rintro e W3 ⟨rfl, hj⟩
    have HJ := Lib.hid hj
    clear hj hy
    gi_wp2
    (try simp only [Exit.noGoto, Exit.inBlock, Exit.then])
    refine bodyPost_ret (results_none rfl _ _ _) rfl ?_
    exact ⟨⟨_, rfl⟩, HJ.out⟩

end Go.Proofs.Ytiejkdnkdmanmaa
