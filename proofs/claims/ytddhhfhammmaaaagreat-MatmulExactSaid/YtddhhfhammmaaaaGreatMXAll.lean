/- Walks: tensors copied, compared, told apart. -/
import Derived.Test.YtddhhfhammmaaaaGreatMView
import Derived.Test.YtddhhfhammmaaaaGreatMEnv
import Derived.Test.YtddhhfhammmaaaaGreatRef2
import Derived.Deep.AppendLies
import Derived.Deep.CutBlock
import Derived.Deep.CutRange
import Derived.Deep.RegionWith
import Derived.Lib.BufferWrite
import Derived.LoopIn
import Derived.LoopNIn
import Derived.OwnWalkIn
import Derived.RangeFuncBound
import Derived.RangeFuncBox
import Derived.RangeFuncCalls
import Derived.RangeFuncFrom
import Derived.RangeFuncLeaves
import Derived.RangeFuncNested
import Derived.Shelf.Abstract
import Derived.Shelf.RegionOpen
import Derived.Sort.OwnSorted
import Derived.TacticsInMore
import Derived.WalkMore
set_option linter.unusedVariables false
set_option linter.unusedSimpArgs false
namespace Go.Proofs.YtddhhfhammmaaaaGreat
open Go.RowKit Go.Rt
/-- All blocks below n but U lie as they lay. -/
structure Save (n U : Nat) (A B : World) : Prop where
  size : A.heap.size ≤ B.heap.size
  same : ∀ j, j < n → j ≠ U → B.heap[j]? = A.heap[j]?
theorem Save.refl (n U : Nat) (A : World) : Save n U A A := ⟨Nat.le_refl _, fun _ _ _ => rfl⟩
theorem Save.trans {n U : Nat} {A B C : World} (h : Save n U A B) (k : Save n U B C) : Save n U A C := ⟨Nat.le_trans h.size k.size, fun j h1 h2 => (k.same j h1 h2).trans (h.same j h1 h2)⟩
theorem Save.cell {n U : Nat} {A B : World} (h : Save n U A B) {p : Addr} {v : Value} (hp : p.block < n) (hU : p.block ≠ U) (hc : A.cell? p = some v) : B.cell? p = some v := (World.cell?_of_block (h.same p.block hp hU)).trans hc
theorem Save.put {n U : Nat} {w : World} (hn : n ≤ w.heap.size) (W : World) (l : Nat) (o o' : Obj) (hl : w.heap.size ≤ l) (h : W.heap[l]? = some o) (_ : o.isCells = false) (_ : o.isWalk = false) : Save n U W (W.putObj l o') := by
  have hg := grownBy_putObj' W l o'
  have hlt := (Array.getElem?_eq_some_iff.1 h).1
  exact ⟨hg.size, fun j hj _ => hg.block j (by omega) (fun e => by cases e; omega)⟩
theorem Box2.kept {W W' : World} {b : Nat} {v0 v1 : Value} {row : Option Nat} (h : Box2 W b v0 v1) (hg : W.grownBy W' row) (hr : some b ≠ row) : Box2 W' b v0 v1 := by
  have hl := World.block_lt_of_cell? W _ h.c0
  exact ⟨(hg.cell_far ⟨b, 0, none⟩ hl hr).trans h.c0, (hg.cell_far ⟨b, 1, none⟩ hl hr).trans h.c1, (hg.frozen_far ⟨b, 0, none⟩ hl hr).trans h.f0, (hg.frozen_far ⟨b, 1, none⟩ hl hr).trans h.f1⟩
theorem lstC {α : Type} {n : Nat} {l : List α} (h : l.length = n + 1) : ∃ x t, l = x :: t ∧ t.length = n := by
  cases l with
  | nil => cases h
  | cons x t => exact ⟨x, t, rfl, Nat.succ.inj h⟩
/-- A tensor and a code, handed back: rows of one's own. -/
def RetTF (w : World) (sh ys : List Int) (z : Int) (e : Ending) (w' : World) : Prop :=
  ∃ a c b d, e = .returned (.tuple #[.agg #[.slice a sh.length c, .slice b ys.length d], .int .i64 z]) ∧ Fr w.heap.size w w' [] [] [⟨3, .slice a sh.length c, sh.length, sh.map (Value.int .i64)⟩, ⟨2, .slice b ys.length d, ys.length, ys.map (Value.int .i64)⟩] []
/-- What is told beside a code. -/
def zL (z : Int) (l : List Int) : List Int := if z = 0 then l else []
theorem zL_0 (l : List Int) : zL 0 l = l := rfl
theorem zL_ne {z : Int} (l : List Int) (h : z ≠ 0) : zL z l = [] := if_neg h
theorem retTF_none {w w' : World} {z : Int} {B : List (Nat × List Value)} {I : List (IntKind × Option Addr × List Int)} (h : Fr w.heap.size w w' B I [] []) : RetTF w [] [] z (.returned (.tuple #[.agg #[.slice none 0 0, .slice none 0 0], .int .i64 z])) w' :=
  ⟨none, 0, none, 0, rfl, ((h.rows.addNil _).addNil _)⟩
theorem results_ctZ {fn : Func} {p u : Tmp} {ty : TypeId} (h : fn.results = #[.cell p ty, .tmp u]) (tmps : Array Value) (P : Program) (w : World) :
    (results fn tmps).run P w = ((asAddr (tmps.getD p undef)).run P w).andThen fun a w₁ => ((loadVar ty a).run P w₁).andThen fun v w₂ => .ok (.tuple #[v, tmps.getD u undef]) w₂ := by
  simp only [results, h]
  simp [Sem.run_bind, Result.andThen]
theorem results_ttZ {fn : Func} {p u : Tmp} (h : fn.results = #[.tmp p, .tmp u]) (tmps : Array Value) (P : Program) (w : World) :
    (results fn tmps).run P w = .ok (.tuple #[tmps.getD p undef, tmps.getD u undef]) w := by
  simp only [results, h]
  simp [Sem.run_bind, Result.andThen]
theorem infoI64Z : (Tryz.prog.info? 2).map (fun i => (i.zero, i.size, i.bytes)) = some (some (.int .i64 0), 1, 8) := by kernel_rfl
/-- append of a part of a list to a row of one's own, as one step of a drawn region. -/
theorem stepAppN {ops : Array Oper} {o : Oper} {a : Act} {w : World} {K : Act → World → Prop} {Q : Exit → Act → World → Prop} {E' : Prop} (T E : TypeId)
    (hinf : (Tryz.prog.info? E).map (fun i => (i.zero, i.size, i.bytes)) = some (some (.int .i64 0), 1, 8)) (hu : Tryz.prog.underlying T = some (.slice E))
    (base : Nat) (v : Value) (n : Nat) (xs news : List Int) (m cap : Nat) (ad : Addr) (s x : Operand) (hg : o.guard = none) (ho : o.op = .call { callee := .builtin .append, args := #[s, x], argTypes := #[T, T] })
    (hs : a.eval s = v) (hown : w.ownsRow base E 1 v n (xs.map (Value.int .i64))) (hx : a.eval x = .slice (some ad) m cap) (hl : news.length = m) (hm : 0 < m) (hc : ∀ j (hj : j < news.length), w.cell? (ad.add j) = some (.int .i64 news[j])) (hn : n ≤ 10000000) (hm2 : m ≤ 10000000) (hb : base ≤ w.heap.size)
    (hK : ∀ g cap' w', w'.ownsRow base E 1 (.slice (some ⟨g, 0, none⟩) (n + m) cap') (n + m) ((xs ++ news).map (Value.int .i64)) → w.grownBy w' v.ownBlock → (v.ownBlock = some g ∨ g = w.heap.size) → K (a.put o.dst (.slice (some ⟨g, 0, none⟩) (n + m) cap')) w') :
    if Region.wanted o (yielded ops a.tmps) = true then Oper.wp Tryz.prog o a w K Q else E' := by
  obtain ⟨i, hi, hz0, hz1, hz2⟩ := info_parts hinf
  refine step_append_lies w hg s x T ho base E i (.int .i64 0) 1 8 hu hi hz0 hz1 hz2 rfl (by decide) v n _ hs hown ad m cap (news.map (Value.int .i64)) hx (by simp [hl]) (fun j u hj => ?_) (by simp [Value.oneCell']) hm (by unfold maxLen; omega) (by omega) hb _ rfl ?_
  · have hjl : j < news.length := by have := (List.getElem?_eq_some_iff.1 hj).1; simpa using this
    rw [List.getElem?_map, List.getElem?_eq_getElem hjl] at hj
    simp only [Option.map_some, Option.some.injEq] at hj
    rw [← hj]
    exact hc j hjl
  · intro g cap' w' h1 h2 h3 _
    exact hK g cap' w' (by rw [List.map_append]; exact h1) h2 h3
set_option maxHeartbeats 400000 in
theorem numbers_any (a : Option Addr) (c base : Nat) (xs : List Int) (w : World) (h : w.ownsRow base 3 1 (.slice a xs.length c) xs.length (xs.map (Value.int .i64))) (hn : xs.length ≤ 17592186044415) (hb : base ≤ w.heap.size) :
    Calls Tryz.prog 71 #[.slice a xs.length c] w fun e w' => e = .returned (.tuple #[]) ∧ w.grownBy w' (Value.slice a xs.length c).ownBlock ∧ Below base w w' := by
  obtain ⟨N, hN⟩ : ∃ N, N = xs.length := ⟨_, rfl⟩
  rw [← hN] at h hn ⊢
  have HN := Lib.hid hN
  clear hN
  go_enter Tryz.func71, Tryz.ntmps71
  go_wp2
  go_loopw [2] (fun i wr => ∃ (k : Nat) (ys : List Int), k ≤ N ∧ i = .int .i64 k ∧ wr.ownsRow base 3 1 (.slice a N c) N (ys.map (Value.int .i64)) ∧ w.grownBy wr (Value.slice a N c).ownBlock) (fun i _ => N - (intOf i).toNat)
  case atStart => exact ⟨0, xs, Nat.zero_le _, rfl, h, World.grownBy.refl _ _⟩
  case round =>
    obtain ⟨k, ys, hk, rfl, hown, hgr⟩ := hrel
    by_cases hlt : k < N
    · obtain ⟨a', c', he, hsh⟩ := own_shape hown
      injection he with he1 he2 he3
      subst he1; subst he3
      obtain ⟨g, rfl, hg1, hg2⟩ := hsh.resolve_left (by omega)
      have hold : wr.cell? ⟨g, k, none⟩ = some (.int .i64 (ys[k]?.getD 0)) := own_cell hown hlt
      have hfr := hown.frozenAt k
      have hst := hown.stored k (.int .i64 (-99))
      have HO : Hid ((wr.setCell ⟨g, k, none⟩ (.int .i64 (-99))).ownsRow base 3 1 (.slice (some ⟨g, 0, none⟩) N c) N ((ys.set k (-99)).map (Value.int .i64))) := by
        have h0 := hst.1
        rw [map_set] at h0
        exact h0
      have HG := Lib.hid (grown_trans hgr hst.2)
      clear hown hgr hst hsh he2 h
      go_wp2
      go_roundw
      case rel => exact ⟨k + 1, _, by omega, by go_num, HO.out, HG.out⟩
      case measure => simp [intOf]; omega
    · have hke : k = N := by omega
      subst hke
      have HO := Lib.hid hown
      have HG := Lib.hid hgr
      have HL : Hid (∀ j, (Value.slice a k c).ownBlock = some j → base ≤ j) := fun j hj => (h.lt j hj).1
      have hsz := hgr.size
      have hb' : base ≤ wr.heap.size := by omega
      clear hown hgr h
      go_wp2_with (at_builtin; (refine wpl_append1 23 3 .i64 infoInt Tryz.underlying23 base _ k ys 5 _ _ _ rfl rfl rfl HO.out rfl (by omega) hb' ?_); intro v' w1 hown1 hbel1 hg1)
      have HG1 := Lib.hid (grown_trans HG.out hg1)
      clear hown1 hbel1 hg1
      go_end0
      exact ⟨rfl, HG1.out, (Below.refl _ _).grown HG1.out hb HL.out⟩
set_option maxHeartbeats 400000 in
theorem spoilW_any (a : Option Addr) (c base : Nat) (xs : List Int) (w : World) (h : w.ownsRow base 2 1 (.slice a xs.length c) xs.length (xs.map (Value.int .i64))) (hn : xs.length ≤ 17592186044415) (hb : base ≤ w.heap.size) :
    Calls Tryz.prog 72 #[.slice a xs.length c] w fun e w' => e = .returned (.tuple #[]) ∧ w.grownBy w' (Value.slice a xs.length c).ownBlock ∧ Below base w w' := by
  obtain ⟨N, hN⟩ : ∃ N, N = xs.length := ⟨_, rfl⟩
  rw [← hN] at h hn ⊢
  have HN := Lib.hid hN
  clear hN
  go_enter Tryz.func72, Tryz.ntmps72
  go_wp2
  go_loopw [2] (fun i wr => ∃ (k : Nat) (ys : List Int), k ≤ N ∧ i = .int .i64 k ∧ wr.ownsRow base 2 1 (.slice a N c) N (ys.map (Value.int .i64)) ∧ w.grownBy wr (Value.slice a N c).ownBlock) (fun i _ => N - (intOf i).toNat)
  case atStart => exact ⟨0, xs, Nat.zero_le _, rfl, h, World.grownBy.refl _ _⟩
  case round =>
    obtain ⟨k, ys, hk, rfl, hown, hgr⟩ := hrel
    by_cases hlt : k < N
    · obtain ⟨a', c', he, hsh⟩ := own_shape hown
      injection he with he1 he2 he3
      subst he1; subst he3
      obtain ⟨g, rfl, hg1, hg2⟩ := hsh.resolve_left (by omega)
      have hold : wr.cell? ⟨g, k, none⟩ = some (.int .i64 (ys[k]?.getD 0)) := own_cell hown hlt
      have hfr := hown.frozenAt k
      have hst := hown.stored k (.int .i64 (-9999))
      have HO : Hid ((wr.setCell ⟨g, k, none⟩ (.int .i64 (-9999))).ownsRow base 2 1 (.slice (some ⟨g, 0, none⟩) N c) N ((ys.set k (-9999)).map (Value.int .i64))) := by
        have h0 := hst.1
        rw [map_set] at h0
        exact h0
      have HG := Lib.hid (grown_trans hgr hst.2)
      clear hown hgr hst hsh he2 h
      go_wp2
      go_roundw
      case rel => exact ⟨k + 1, _, by omega, by go_num, HO.out, HG.out⟩
      case measure => simp [intOf]; omega
    · have hke : k = N := by omega
      subst hke
      have HO := Lib.hid hown
      have HG := Lib.hid hgr
      have HL : Hid (∀ j, (Value.slice a k c).ownBlock = some j → base ≤ j) := fun j hj => (h.lt j hj).1
      have hsz := hgr.size
      have hb' : base ≤ wr.heap.size := by omega
      clear hown hgr h
      go_wp2_with (at_builtin; (refine wpl_append1 24 2 .i64 infoI64 Tryz.underlying24 base _ k ys 5 _ _ _ rfl rfl rfl HO.out rfl (by omega) hb' ?_); intro v' w1 hown1 hbel1 hg1)
      have HG1 := Lib.hid (grown_trans HG.out hg1)
      clear hown1 hbel1 hg1
      go_end0
      exact ⟨rfl, HG1.out, (Below.refl _ _).grown HG1.out hb HL.out⟩
theorem grownR (w : World) (row : Option Nat) : w.grownBy w row := ⟨rfl, rfl, rfl, Nat.le_refl _, fun _ _ _ => rfl⟩
theorem num8_any (e : Int) (w : World) : Calls Tryz.prog 40 #[.int .i64 e] w fun r w' => r = .returned (.int .i64 e) ∧ w = w' := by
  go_enter Tryz.func40, Tryz.ntmps40
  go_wp2
  go_ret
  exact ⟨by first | rfl | simp, rfl⟩
theorem rmayF_any (f : Int) (w : World) : Calls Tryz.prog 6 #[.int .i64 f] w fun r w' => r = .returned (.bool (decide (8 ≤ f) && decide (f ≤ 32))) ∧ w = w' := by
  by_cases h1 : 8 ≤ f
  · by_cases h2 : f ≤ 32
    · go_enter Tryz.func6, Tryz.ntmps6
      go_wp2
      go_ret
      exact ⟨by simp [h1, h2], rfl⟩
    · go_enter Tryz.func6, Tryz.ntmps6
      go_wp2
      go_ret
      exact ⟨by simp [h1, h2], rfl⟩
  · go_enter Tryz.func6, Tryz.ntmps6
    go_wp2
    go_ret
    exact ⟨by simp; omega, rfl⟩
theorem own_intsE {k : IntKind} {w : World} {base c : Nat} {e : TypeId} {a : Option Addr} {xs : List Int} (h : w.ownsRow base e 1 (.slice a xs.length c) xs.length (xs.map (Value.int k))) (hwf : ∀ x ∈ xs, (Lit.int k x).wf = true) : Ints k w w.heap.size a xs := by
  obtain ⟨a2, c2, he, hi⟩ := own_ints h hwf
  simp only [Value.slice.injEq] at he
  obtain ⟨rfl, _, _⟩ := he
  exact hi
theorem ints_nil (w : World) (hi : Nat) : Ints .i64 w hi none [] := ⟨by simp, by simp, fun i h => by simp at h⟩
theorem appendWZ {w : World} {ops : Array Oper} {rest : List Oper} {o : Oper} {a : Act} {Q : Exit → Act → World → Prop}
    (base : Nat) (v : Value) (n : Nat) (xs : List Int) (y : Int) (cap : Nat) (s x : Operand) (hg : o.guard = none) (ho : o.op = .call { callee := .builtin .append, args := #[s, x], argTypes := #[24, 24] })
    (hs : a.eval s = v) (hown : w.ownsRow base 2 1 v n (xs.map (Value.int .i64))) (hx : a.eval x = .slice (some ⟨w.heap.size, 0, none⟩) 1 cap) (hn : n ≤ 1000000) (hb : base ≤ w.heap.size)
    (hK : ∀ v' w', w'.ownsRow base 2 1 v' (n + 1) ((xs ++ [y]).map (Value.int .i64)) → (∀ B W0, B ≤ base → Below B W0 w → Below B W0 w') → w.grownBy w' v.ownBlock → (v'.ownBlock = v.ownBlock ∨ v'.ownBlock = some (w.heap.size + 1)) →
      wpList Tryz.prog ops Q rest (a.put o.dst v') w') : wpList Tryz.prog ops Q (o :: rest) a (w.alloc (.cells #[.int .i64 y] 2)) := by
  obtain ⟨i, hi, hz0, hz1, hz2⟩ := info_parts infoI64Z
  refine wpList_append_own_at _ hg s x _ ho base 2 i (.int .i64 0) 1 8 Tryz.underlying24 hi hz0 hz1 hz2 rfl (by decide) v n _ hs (hown.alloc _) ⟨w.heap.size, 0, none⟩ 1 cap [.int .i64 y] hx rfl (cell_one_new _ _ _)
    (by simp [Value.oneCell']) (by unfold maxLen; omega) (by omega) (by simp; omega) ?_
  intro v' w' hown' hgrow _ hob
  refine hK v' w' (by simpa using hown') (fun B W0 hB hbel => ?_) (grown_trans (World.grownBy_alloc w _ _) hgrow) (by simpa using hob)
  have hlt := hown.lt
  refine (hbel.alloc (Nat.le_trans hB hb) _).grown hgrow (by simp; omega) (fun j hj => ?_)
  have := hlt j hj
  omega
theorem box2_at (w : World) (v0 v1 : Value) (t : TypeId) : (w.alloc (.cells #[v0, v1] t)).cell? ⟨w.heap.size, 0, none⟩ = some v0 ∧ (w.alloc (.cells #[v0, v1] t)).cell? ⟨w.heap.size, 1, none⟩ = some v1 := by
  have h := BoxL.new w [v0, v1] t
  exact ⟨h.cell 0 _ rfl, h.cell 1 _ rfl⟩
set_option maxRecDepth 100000 in
theorem spoilT2_any (a b : Option Addr) (c d base : Nat) (sh ys : List Int) (w : World) (h : w.ownsRow base 3 1 (.slice a sh.length c) sh.length (sh.map (Value.int .i64))) (h2 : w.ownsRow base 2 1 (.slice b ys.length d) ys.length (ys.map (Value.int .i64))) (hne : ∀ g, (Value.slice a sh.length c).ownBlock = some g → (Value.slice b ys.length d).ownBlock ≠ some g) (hn : sh.length ≤ 100000) (hn2 : ys.length ≤ 100000) (hb : base ≤ w.heap.size) :
    Calls Tryz.prog 41 #[.agg #[.slice a sh.length c, .slice b ys.length d]] w fun e w' => e = .returned (.tuple #[]) ∧ ∃ W1 W2, Below w.heap.size w W1 ∧ W1.grownBy W2 (Value.slice a sh.length c).ownBlock ∧ W2.grownBy w' (Value.slice b ys.length d).ownBlock := by
  go_enter Tryz.func41, Tryz.ntmps41
  have HO := Lib.hid (h.alloc (.cells #[.slice a sh.length c, .slice b ys.length d] 26))
  have HP := Lib.hid (h2.alloc (.cells #[.slice a sh.length c, .slice b ys.length d] 26))
  have HB := Lib.hid ((Below.refl w.heap.size w).alloc (Nat.le_refl _) (.cells #[.slice a sh.length c, .slice b ys.length d] 26))
  have HLT := Lib.hid h.lt
  have HLT2 := Lib.hid h2.lt
  have HNE := Lib.hid hne
  have hbx := box2_at w (.slice a sh.length c) (.slice b ys.length d) 26
  have HX := Lib.hid hbx
  clear h h2 hne hbx
  go_upto_region 1 with fail
  obtain ⟨B, hB⟩ : ∃ x, w.heap.size = x := ⟨_, rfl⟩
  obtain ⟨W1, hW1⟩ : ∃ W1, w.alloc (.cells #[.slice a sh.length c, .slice b ys.length d] 26) = W1 := ⟨_, rfl⟩
  have hs1 : W1.heap.size = B + 1 := by rw [← hW1]; simp [hB]
  rw [hW1] at HO HP HB HX ⊢
  rw [hB] at HX HLT HLT2 hb HB ⊢
  clear hW1
  obtain ⟨x0, x1⟩ := HX.out
  have HC1 := Lib.hid (numbers_any a c base sh W1 HO.out (by omega) (by omega))
  go_upto_region 2 with (go_at_call 71; refine HC1.out.mono ?_; rintro e w2 ⟨rfl, hg, hbl⟩; have HG := Lib.hid hg; have HBL := Lib.hid hbl; clear hg hbl)
  have y1 := HG.out.cell x1 (fun e => by have := HLT.out B e.symm; omega)
  have HP2 := Lib.hid (HP.out.kept HG.out (by
    cases hv : (Value.slice a sh.length c).ownBlock with
    | none => cases hv2 : (Value.slice b ys.length d).ownBlock <;> simp
    | some g => exact .inr (HNE.out g hv)))
  have hsz := HG.out.size
  have HC2 := Lib.hid (spoilW_any b d base ys w2 HP2.out (by omega) (by omega))
  clear x0 x1
  go_wp2_with (go_at_call 72; refine HC2.out.mono ?_; rintro e w3 ⟨rfl, hg, hbl⟩; have HG3 := Lib.hid hg; clear hg hbl)
  go_end0
  exact ⟨rfl, _, _, (by rw [hB]; exact HB.out), HG.out, HG3.out⟩
theorem results_cZ {fn : Func} {p : Tmp} {ty : TypeId} (h : fn.results = #[.cell p ty]) (tmps : Array Value) (P : Program) (w : World) :
    (results fn tmps).run P w = ((asAddr (tmps.getD p undef)).run P w).andThen fun a w₁ => (loadVar ty a).run P w₁ := by
  simp only [results, h]
  simp [Sem.run_bind, Result.andThen]
theorem retTen_fr {w w' : World} {xs ys : List Int} {z : Int} {e : Ending} (h : RetTen w xs ys z e w') : RetTF w xs ys z e w' := by
  obtain ⟨a, c, b, d, mid, rfl, h1, h2, _, ⟨_, ho⟩, h3, hb⟩ := h
  refine ⟨a, c, b, d, rfl, hb.size, hb, by simp, .nil, by simp, ?_, by simp, ?_, by simp, .nil⟩
  · intro q hq
    simp only [List.mem_cons, List.not_mem_nil, or_false] at hq
    rcases hq with rfl | rfl
    · exact ho.own
    · exact own_mono h3 h1
  · simp only [List.pairwise_cons, List.mem_cons, List.not_mem_nil, or_false, forall_eq, List.Pairwise.nil, and_true, false_implies, implies_true]
    intro g hg hg2
    have := ho.lt g hg
    have := (h3.lt g hg2).1
    omega
/-- What is told beside a code. -/
def okT (z : Int) (l : List Int) : List Int := if z = 0 then l else []
set_option maxRecDepth 100000 in
set_option maxHeartbeats 1000000 in
theorem copyTen_any (a b : Option Addr) (c d : Nat) (xs ys : List Int) (w : World) (h : Ints .i64 w w.heap.size a xs) (h2 : Ints .i64 w w.heap.size b ys) (hn1 : xs.length ≤ 17592186044415) (hn2 : ys.length ≤ 17592186044415) :
    Calls Tryz.prog 9 #[.agg #[.slice a xs.length c, .slice b ys.length d]] w (RetTO w xs ys) := by
  have H0 := Lib.hid h
  have H1 := Lib.hid h2
  clear h h2
  go_enter Tryz.func9, Tryz.ntmps9
  have F1 := Lib.hid (((Fr.start (w := w) (I := [(.i64, a, xs), (.i64, b, ys)]) (by intro z hz; simp at hz; rcases hz with rfl | rfl; exact H0.out; exact H1.out)).box1 (b := w.heap.size) (by simp) [.slice a xs.length c, .slice b ys.length d] 26).box1 (b := w.heap.size + 1) (by simp) [.slice none 0 0, .slice none 0 0] 26)
  simp only [List.nil_append, List.cons_append] at F1
  go_upto_region 1 with fail
  obtain ⟨W1, hW1⟩ : ∃ W1, ((w.alloc (.cells #[.slice a xs.length c, .slice b ys.length d] 26)).alloc (.cells #[.slice none 0 0, .slice none 0 0] 26)) = W1 := ⟨_, rfl⟩
  rw [hW1] at F1 ⊢
  clear hW1
  have c0_0 := F1.out.c 0 0 rfl rfl
  have c0_1 := F1.out.c 0 1 rfl rfl
  go_upto_region 2 with fail
  obtain ⟨Q, hQ⟩ : ∃ x, W1.heap.size = x := ⟨_, rfl⟩
  rw [hQ]
  have F2 := Lib.hid (F1.out.box1 (b := Q) hQ [.slice a xs.length c, .slice b ys.length d] 26)
  simp only [List.nil_append, List.cons_append] at F2
  obtain ⟨W2, hW2⟩ : ∃ x, (W1.alloc (.cells #[.slice a xs.length c, .slice b ys.length d] 26)) = x := ⟨_, rfl⟩
  rw [hW2] at F2 ⊢
  clear hW2 hQ F1 c0_0 c0_1
  have c0_0 := F2.out.c 0 0 rfl rfl
  have c0_1 := F2.out.c 0 1 rfl rfl
  have c2_0 := F2.out.c 2 0 rfl rfl
  have c2_1 := F2.out.c 2 1 rfl rfl
  have cf2_0 := F2.out.f 2 0 rfl rfl
  have cf2_1 := F2.out.f 2 1 rfl rfl
  go_upto_region 3 with (go_at_call 32; refine (copyNumbers_any a c xs W2 (F2.out.lw 0 rfl) hn1).mono ?_; rintro e w3 ⟨v, rfl, hown, hb⟩; obtain ⟨a3, c3, rfl, _⟩ := own_shape hown; have F3 := Lib.hid (F2.out.addO hb hown); simp only [List.nil_append] at F3; clear hown hb F2 c0_0 c0_1 c2_0 c2_1 cf2_0 cf2_1; have d0_0 := F3.out.c 0 0 rfl rfl; have d0_1 := F3.out.c 0 1 rfl rfl; have d2_0 := F3.out.c 2 0 rfl rfl; have d2_1 := F3.out.c 2 1 rfl rfl; have df2_0 := F3.out.f 2 0 rfl rfl; have df2_1 := F3.out.f 2 1 rfl rfl)
  have F4 := Lib.hid (F3.out.setC 2 0 rfl (by simp) (.slice a3 xs.length c3))
  simp only [List.set_cons_zero, List.set_cons_succ] at F4
  obtain ⟨W4, hW4⟩ : ∃ x, w3.setCell ⟨Q, 0, none⟩ (.slice a3 xs.length c3) = x := ⟨_, rfl⟩
  rw [hW4] at F4 ⊢
  clear hW4 F3 d0_0 d0_1 d2_0 d2_1 df2_0 df2_1
  have c0_0 := F4.out.c 0 0 rfl rfl
  have c0_1 := F4.out.c 0 1 rfl rfl
  have c2_0 := F4.out.c 2 0 rfl rfl
  have c2_1 := F4.out.c 2 1 rfl rfl
  have cf2_0 := F4.out.f 2 0 rfl rfl
  have cf2_1 := F4.out.f 2 1 rfl rfl
  go_upto_region 4 with (go_at_call 33; refine (copyWords_any b d ys W4 (F4.out.lw 1 rfl) hn2).mono ?_; rintro e w5 ⟨v, rfl, hown, hb⟩; obtain ⟨a5, c5, rfl, _⟩ := own_shape hown; have F5 := Lib.hid (F4.out.addO hb hown); simp only [List.nil_append, List.cons_append] at F5; clear hown hb F4 c0_0 c0_1 c2_0 c2_1 cf2_0 cf2_1; have d0_0 := F5.out.c 0 0 rfl rfl; have d0_1 := F5.out.c 0 1 rfl rfl; have d2_0 := F5.out.c 2 0 rfl rfl; have d2_1 := F5.out.c 2 1 rfl rfl; have df2_0 := F5.out.f 2 0 rfl rfl; have df2_1 := F5.out.f 2 1 rfl rfl)
  have F6 := Lib.hid (F5.out.setC 2 1 rfl (by simp) (.slice a5 ys.length c5))
  simp only [List.set_cons_zero, List.set_cons_succ] at F6
  obtain ⟨W6, hW6⟩ : ∃ x, w5.setCell ⟨Q, 1, none⟩ (.slice a5 ys.length c5) = x := ⟨_, rfl⟩
  rw [hW6] at F6 ⊢
  clear hW6 F5 d0_0 d0_1 d2_0 d2_1 df2_0 df2_1
  have c1_0 := F6.out.c 1 0 rfl rfl
  have c1_1 := F6.out.c 1 1 rfl rfl
  have c2_0 := F6.out.c 2 0 rfl rfl
  have c2_1 := F6.out.c 2 1 rfl rfl
  have cf1_0 := F6.out.f 1 0 rfl rfl
  have cf1_1 := F6.out.f 1 1 rfl rfl
  go_wp2
  have FZ := F6.out.set 1 rfl (by simp) [.slice a3 xs.length c3, .slice a5 ys.length c5] rfl
  simp only [setL, Nat.reduceAdd, List.set_cons_zero, List.set_cons_succ] at FZ
  have z0 := FZ.c 1 0 rfl rfl
  have z1 := FZ.c 1 1 rfl rfl
  refine bodyPost_ret (v := .agg #[.slice a3 xs.length c3, .slice a5 ys.length c5]) ?_ rfl ⟨a3, c3, a5, c5, rfl, FZ.rows⟩
  rw [results_cZ rfl]
  go_simp
set_option maxRecDepth 100000 in
set_option maxHeartbeats 1000000 in
theorem is8_any (a b p q : Option Addr) (c d cp cq base : Nat) (sh st ps pt : List Int) (e bad : Int) (w : World) (h : w.ownsRow base 3 1 (.slice a sh.length c) sh.length (sh.map (Value.int .i64))) (h2 : w.ownsRow base 2 1 (.slice b st.length d) st.length (st.map (Value.int .i64))) (hne : ∀ g, (Value.slice a sh.length c).ownBlock = some g → (Value.slice b st.length d).ownBlock ≠ some g) (hn : sh.length ≤ 100000) (hn2 : st.length ≤ 100000) (hb : base ≤ w.heap.size)
    (hw1 : ∀ x ∈ sh, (Lit.int .i64 x).wf = true) (hw2 : ∀ x ∈ st, (Lit.int .i64 x).wf = true) (h3 : Ints .i64 w w.heap.size p ps) (h4 : Ints .i64 w w.heap.size q pt) (he : e = bad) (h0 : bad = 0 → sh = ps ∧ st = pt) (h1 : bad ≠ 0 → sh = [] ∧ st = []) :
    Calls Tryz.prog 11 #[.agg #[.slice a sh.length c, .slice b st.length d], .int .i64 e, .agg #[.slice p ps.length cp, .slice q pt.length cq], .int .i64 bad] w fun r w' => r = .returned (.bool true) ∧ ∃ W1 W2, Below w.heap.size w W1 ∧ W1.grownBy W2 (Value.slice a sh.length c).ownBlock ∧ W2.grownBy w' (Value.slice b st.length d).ownBlock := by
  subst he
  have HO := Lib.hid h
  have HP := Lib.hid h2
  have H3 := Lib.hid h3
  have H4 := Lib.hid h4
  have HNE := Lib.hid hne
  have hi1 := (own_intsE h hw1)
  have hi2 := (own_intsE h2 hw2)
  have HI1 := Lib.hid hi1
  have HI2 := Lib.hid hi2
  clear h h2 h3 h4 hne hw1 hw2 hi1 hi2
  by_cases hz : e = 0
  · obtain ⟨rfl, rfl⟩ := h0 hz
    subst hz
    clear h0 h1
    have F0 := Lib.hid (Fr.start (w := w) (I := [(.i64, a, sh), (.i64, b, st), (.i64, p, sh), (.i64, q, st)]) (by intro z hz; simp at hz; rcases hz with rfl | rfl | rfl | rfl; exact HI1.out; exact HI2.out; exact H3.out; exact H4.out))
    go_enter Tryz.func11, Tryz.ntmps11
    have F1 := Lib.hid ((F0.out.box1 (b := w.heap.size) rfl [.slice a sh.length c, .slice b st.length d] 26).box1 (b := w.heap.size + 1) (by simp) [.slice p sh.length cp, .slice q st.length cq] 26)
    simp only [List.nil_append, List.cons_append] at F1
    go_upto_region 1 with fail
    obtain ⟨W1, hW1⟩ : ∃ W1, ((w.alloc (.cells #[.slice a sh.length c, .slice b st.length d] 26)).alloc (.cells #[.slice p sh.length cp, .slice q st.length cq] 26)) = W1 := ⟨_, rfl⟩
    rw [hW1] at F1 ⊢
    clear hW1 F0
    have c0_0 := F1.out.c 0 0 rfl rfl
    have c0_1 := F1.out.c 0 1 rfl rfl
    have c1_0 := F1.out.c 1 0 rfl rfl
    have c1_1 := F1.out.c 1 1 rfl rfl
    have hev := eqTensor_any a b p q c d cp cq sh st sh st W1 (F1.out.lw 0 rfl) (F1.out.lw 1 rfl) (F1.out.lw 2 rfl) (F1.out.lw 3 rfl)
    simp only [decide_true, Bool.and_true] at hev
    have HEV := Lib.hid hev
    clear hev
    go_upto_region 4 with (first | (go_at_call 40; refine (num8_any _ _).mono ?_; rintro e w' ⟨rfl, rfl⟩) | (go_at_call 13; refine (HEV.out).mono ?_; rintro e w2 ⟨rfl, hb⟩; have F2 := Lib.hid (F1.out.next hb); clear hb F1 c0_0 c0_1 c1_0 c1_1; have d0_0 := F2.out.c 0 0 rfl rfl; have d0_1 := F2.out.c 0 1 rfl rfl) | fail)
    have HS := Lib.hid (spoilT2_any a b c d base sh st w2 (own_below HO.out F2.out.bel (Nat.le_refl _)) (own_below HP.out F2.out.bel (Nat.le_refl _)) HNE.out hn hn2 (by have := F2.out.hlo; omega))
    go_wp2_with (go_at_call 41; refine HS.out.mono ?_; rintro e w3 ⟨rfl, U1, U2, hb1, hg2, hg3⟩; have G1 := Lib.hid hb1; have G2 := Lib.hid hg2; have G3 := Lib.hid hg3; clear hb1 hg2 hg3)
    go_ret
    exact ⟨rfl, U1, U2, F2.out.bel.trans (G1.out.mono F2.out.hlo), G2.out, G3.out⟩
  · skip
    obtain ⟨rfl, rfl⟩ := h1 hz
    have hz2 : (e != 0) = true := by simpa using hz
    clear h0 h1
    have F0 := Lib.hid (Fr.start (w := w) (I := [(.i64, a, []), (.i64, b, [])]) (by intro z hz; simp at hz; rcases hz with rfl | rfl; exact HI1.out; exact HI2.out))
    simp only [List.length_nil]
    go_enter Tryz.func11, Tryz.ntmps11
    have F1 := Lib.hid ((F0.out.box1 (b := w.heap.size) rfl [.slice a 0 c, .slice b 0 d] 26).box1 (b := w.heap.size + 1) (by simp) [.slice p ps.length cp, .slice q pt.length cq] 26)
    simp only [List.nil_append, List.cons_append] at F1
    go_upto_region 1 with fail
    obtain ⟨W1, hW1⟩ : ∃ W1, ((w.alloc (.cells #[.slice a 0 c, .slice b 0 d] 26)).alloc (.cells #[.slice p ps.length cp, .slice q pt.length cq] 26)) = W1 := ⟨_, rfl⟩
    rw [hW1] at F1 ⊢
    clear hW1 F0
    have c0_0 := F1.out.c 0 0 rfl rfl
    have c0_1 := F1.out.c 0 1 rfl rfl
    have c1_0 := F1.out.c 1 0 rfl rfl
    have c1_1 := F1.out.c 1 1 rfl rfl
    have hev := eqTensor_any a b none none c d 0 0 [] [] [] [] W1 (F1.out.lw 0 rfl) (F1.out.lw 1 rfl) (ints_nil _ _) (ints_nil _ _)
    simp only [decide_true, Bool.and_true, List.length_nil] at hev
    have HEV := Lib.hid hev
    clear hev
    go_wp2_with (first | (go_at_call 40; refine (num8_any _ _).mono ?_; rintro e w' ⟨rfl, rfl⟩) | (go_at_call 13; refine (HEV.out).mono ?_; rintro e w2 ⟨rfl, hb⟩; have F2 := Lib.hid (F1.out.next hb); clear hb F1) | fail)
    go_ret
    exact ⟨rfl, _, _, F2.out.bel, grownR _ _, grownR _ _⟩
theorem appendI {w : World} {ops : Array Oper} {rest : List Oper} {o : Oper} {a : Act} {Q : Exit → Act → World → Prop}
    (base : Nat) (v : Value) (n : Nat) (xs : List Int) (y : Int) (cap : Nat) (s x : Operand) (hg : o.guard = none) (ho : o.op = .call { callee := .builtin .append, args := #[s, x], argTypes := #[23, 23] })
    (hs : a.eval s = v) (hown : w.ownsRow base 3 1 v n (xs.map (Value.int .i64))) (hx : a.eval x = .slice (some ⟨w.heap.size, 0, none⟩) 1 cap) (hn : n ≤ 1000000) (hb : base ≤ w.heap.size)
    (hK : ∀ v' w', w'.ownsRow base 3 1 v' (n + 1) ((xs ++ [y]).map (Value.int .i64)) → (∀ B W0, B ≤ base → Below B W0 w → Below B W0 w') → w.grownBy w' v.ownBlock → (v'.ownBlock = v.ownBlock ∨ v'.ownBlock = some (w.heap.size + 1)) →
      wpList Tryz.prog ops Q rest (a.put o.dst v') w') : wpList Tryz.prog ops Q (o :: rest) a (w.alloc (.cells #[.int .i64 y] 3)) := by
  obtain ⟨i, hi, hz0, hz1, hz2⟩ := info_parts infoInt
  refine wpList_append_own_at _ hg s x _ ho base 3 i (.int .i64 0) 1 8 Tryz.underlying23 hi hz0 hz1 hz2 rfl (by decide) v n _ hs (hown.alloc _) ⟨w.heap.size, 0, none⟩ 1 cap [.int .i64 y] hx rfl (cell_one_new _ _ _)
    (by simp [Value.oneCell']) (by unfold maxLen; omega) (by omega) (by simp; omega) ?_
  intro v' w' hown' hgrow _ hob
  refine hK v' w' (by simpa using hown') (fun B W0 hB hbel => ?_) (grown_trans (World.grownBy_alloc w _ _) hgrow) (by simpa using hob)
  have hlt := hown.lt
  refine (hbel.alloc (Nat.le_trans hB hb) _).grown hgrow (by simp; omega) (fun j hj => ?_)
  have := hlt j hj
  omega
end Go.Proofs.YtddhhfhammmaaaaGreat
