/- Walks: tensors copied, dropped by the reference, refused, compared. -/
import Derived.Test.YtimjhjacinchjaaGreatZRows
import Derived.Test.YtimjhjacinchjaaGreatEDrop
import Derived.Test.YtimjhjacinchjaaGreatELaw
import Derived.Test.YtimjhjacinchjaaGreatRef2
set_option linter.unusedVariables false
set_option linter.unusedSimpArgs false
namespace Go.Proofs.YtimjhjacinchjaaGreat
open Go.RowKit Go.Rt
set_option maxHeartbeats 400000 in
theorem copyNumbers_any (a : Option Addr) (c : Nat) (xs : List Int) (w : World) (h : Ints .i64 w w.heap.size a xs) (hn : xs.length ≤ 17592186044415) :
    Calls Tryz.prog 21 #[.slice a xs.length c] w (RetInts w xs) := by
  obtain ⟨hm, _, hc⟩ := h
  go_enter Tryz.func21, Tryz.ntmps21
  go_wp2
  go_loopw [3, 4] (fun v i wr => ∃ k : Nat, k ≤ xs.length ∧ i = .int .i64 k ∧ wr.ownsRow w.heap.size 3 1 v k ((xs.take k).map (Value.int .i64)) ∧ Below w.heap.size w wr) (fun _ i _ => xs.length - (intOf i).toNat)
  case atStart => exact ⟨0, Nat.zero_le _, rfl, World.ownsRow_nil _ _ _ _, Below.refl _ _⟩
  case round =>
    obtain ⟨k, hk, rfl, hown, hbel⟩ := hrel
    by_cases hlt : k < xs.length
    · obtain ⟨b, off, rfl, hlb, hcell⟩ := hc k hlt
      clear hc
      rw [List.getElem?_eq_getElem hlt] at hcell
      simp only [Option.getD_some] at hcell
      have hcr : wr.cell? ⟨b, off + k, none⟩ = some (.int .i64 xs[k]) := (hbel.cell (p := ⟨b, off + k, none⟩) hlb).trans hcell
      have HO := Lib.hid hown
      have HB := Lib.hid hbel
      have hsz := hbel.size
      clear hown hbel hcell
      go_wp2_with (at_builtin; (refine wpl_append1 23 3 .i64 infoInt Tryz.underlying23 w.heap.size _ k (xs.take k) xs[k] _ _ _ rfl rfl rfl HO.out rfl (by omega) hsz ?_); intro v' w1 hown1 hbel1 _)
      have HO1 := Lib.hid hown1
      have HB1 := Lib.hid (hbel1 _ _ (Nat.le_refl _) HB.out)
      clear hown1 hbel1
      go_roundw
      case rel => exact ⟨k + 1, by omega, by go_num, by rw [take_snoc _ _ hlt]; exact HO1.out, HB1.out⟩
      case measure => simp [intOf]; omega
    · have hke : k = xs.length := by omega
      subst hke
      have HO := Lib.hid hown
      have HB := Lib.hid hbel
      clear hown hbel hc
      go_wp2
      go_ret
      exact ⟨_, rfl, by have := HO.out; rw [List.take_length] at this; exact this, HB.out⟩
set_option maxHeartbeats 400000 in
theorem copyWords_any (a : Option Addr) (c : Nat) (xs : List Int) (w : World) (h : Ints .i64 w w.heap.size a xs) (hn : xs.length ≤ 17592186044415) :
    Calls Tryz.prog 23 #[.slice a xs.length c] w (RetWords w xs) := by
  obtain ⟨hm, _, hc⟩ := h
  go_enter Tryz.func23, Tryz.ntmps23
  go_wp2
  go_loopw [3, 4] (fun v i wr => ∃ k : Nat, k ≤ xs.length ∧ i = .int .i64 k ∧ wr.ownsRow w.heap.size 2 1 v k ((xs.take k).map (Value.int .i64)) ∧ Below w.heap.size w wr) (fun _ i _ => xs.length - (intOf i).toNat)
  case atStart => exact ⟨0, Nat.zero_le _, rfl, World.ownsRow_nil _ _ _ _, Below.refl _ _⟩
  case round =>
    obtain ⟨k, hk, rfl, hown, hbel⟩ := hrel
    by_cases hlt : k < xs.length
    · obtain ⟨b, off, rfl, hlb, hcell⟩ := hc k hlt
      clear hc
      rw [List.getElem?_eq_getElem hlt] at hcell
      simp only [Option.getD_some] at hcell
      have hcr : wr.cell? ⟨b, off + k, none⟩ = some (.int .i64 xs[k]) := (hbel.cell (p := ⟨b, off + k, none⟩) hlb).trans hcell
      have HO := Lib.hid hown
      have HB := Lib.hid hbel
      have hsz := hbel.size
      clear hown hbel hcell
      go_wp2_with (at_builtin; (refine wpl_append1 24 2 .i64 infoI64 Tryz.underlying24 w.heap.size _ k (xs.take k) xs[k] _ _ _ rfl rfl rfl HO.out rfl (by omega) hsz ?_); intro v' w1 hown1 hbel1 _)
      have HO1 := Lib.hid hown1
      have HB1 := Lib.hid (hbel1 _ _ (Nat.le_refl _) HB.out)
      clear hown1 hbel1
      go_roundw
      case rel => exact ⟨k + 1, by omega, by go_num, by rw [take_snoc _ _ hlt]; exact HO1.out, HB1.out⟩
      case measure => simp [intOf]; omega
    · have hke : k = xs.length := by omega
      subst hke
      have HO := Lib.hid hown
      have HB := Lib.hid hbel
      clear hown hbel hc
      go_wp2
      go_ret
      exact ⟨_, rfl, by have := HO.out; rw [List.take_length] at this; exact this, HB.out⟩
set_option maxHeartbeats 400000 in
theorem numbers_any (a : Option Addr) (c base : Nat) (xs : List Int) (w : World) (h : w.ownsRow base 3 1 (.slice a xs.length c) xs.length (xs.map (Value.int .i64))) (hn : xs.length ≤ 17592186044415) (hb : base ≤ w.heap.size) :
    Calls Tryz.prog 49 #[.slice a xs.length c] w fun e w' => e = .returned (.tuple #[]) ∧ w.grownBy w' (Value.slice a xs.length c).ownBlock ∧ Below base w w' := by
  obtain ⟨N, hN⟩ : ∃ N, N = xs.length := ⟨_, rfl⟩
  rw [← hN] at h hn ⊢
  have HN := Lib.hid hN
  clear hN
  go_enter Tryz.func49, Tryz.ntmps49
  go_wp2
  go_loopw [2] (fun i wr => ∃ (k : Nat) (ys : List Int), k ≤ N ∧ i = .int .i64 k ∧ wr.ownsRow base 3 1 (.slice a N c) N (ys.map (Value.int .i64)) ∧ w.grownBy wr (Value.slice a N c).ownBlock) (fun i _ => N - (intOf i).toNat)
  case atStart => exact ⟨0, xs, Nat.zero_le _, rfl, h, World.grownBy.refl _ _⟩
  case round =>
    obtain ⟨k, ys, hk, rfl, hown, hgr⟩ := hrel
    by_cases hlt : k < N
    · obtain ⟨a', c', he, hsh⟩ := own_shape hown
      injection he with he1 he2 he3
      subst he1; subst he3
      obtain ⟨g, rfl, hg1, hg2⟩ := hsh.resolve_left (by omega)
      have hold : wr.cell? ⟨g, k, none⟩ = some (.int .i64 (ys[k]?.getD 0)) := own_cell hown hlt
      have hfr := hown.frozenAt k
      have hst := hown.stored k (.int .i64 (-99))
      have HO : Hid ((wr.setCell ⟨g, k, none⟩ (.int .i64 (-99))).ownsRow base 3 1 (.slice (some ⟨g, 0, none⟩) N c) N ((ys.set k (-99)).map (Value.int .i64))) := by
        have h0 := hst.1
        rw [map_set] at h0
        exact h0
      have HG := Lib.hid (grown_trans hgr hst.2)
      clear hown hgr hst hsh he2 h
      go_wp2
      go_roundw
      case rel => exact ⟨k + 1, _, by omega, by go_num, HO.out, HG.out⟩
      case measure => simp [intOf]; omega
    · have hke : k = N := by omega
      subst hke
      have HO := Lib.hid hown
      have HG := Lib.hid hgr
      have HL : Hid (∀ j, (Value.slice a k c).ownBlock = some j → base ≤ j) := fun j hj => (h.lt j hj).1
      have hsz := hgr.size
      have hb' : base ≤ wr.heap.size := by omega
      clear hown hgr h
      go_wp2_with (at_builtin; (refine wpl_append1 23 3 .i64 infoInt Tryz.underlying23 base _ k ys 5 _ _ _ rfl rfl rfl HO.out rfl (by omega) hb' ?_); intro v' w1 hown1 hbel1 hg1)
      have HG1 := Lib.hid (grown_trans HG.out hg1)
      clear hown1 hbel1 hg1
      go_end0
      exact ⟨rfl, HG1.out, (Below.refl _ _).grown HG1.out hb HL.out⟩

set_option maxHeartbeats 400000 in
theorem spoilW_any (a : Option Addr) (c base : Nat) (xs : List Int) (w : World) (h : w.ownsRow base 2 1 (.slice a xs.length c) xs.length (xs.map (Value.int .i64))) (hn : xs.length ≤ 17592186044415) (hb : base ≤ w.heap.size) :
    Calls Tryz.prog 50 #[.slice a xs.length c] w fun e w' => e = .returned (.tuple #[]) ∧ w.grownBy w' (Value.slice a xs.length c).ownBlock ∧ Below base w w' := by
  obtain ⟨N, hN⟩ : ∃ N, N = xs.length := ⟨_, rfl⟩
  rw [← hN] at h hn ⊢
  have HN := Lib.hid hN
  clear hN
  go_enter Tryz.func50, Tryz.ntmps50
  go_wp2
  go_loopw [2] (fun i wr => ∃ (k : Nat) (ys : List Int), k ≤ N ∧ i = .int .i64 k ∧ wr.ownsRow base 2 1 (.slice a N c) N (ys.map (Value.int .i64)) ∧ w.grownBy wr (Value.slice a N c).ownBlock) (fun i _ => N - (intOf i).toNat)
  case atStart => exact ⟨0, xs, Nat.zero_le _, rfl, h, World.grownBy.refl _ _⟩
  case round =>
    obtain ⟨k, ys, hk, rfl, hown, hgr⟩ := hrel
    by_cases hlt : k < N
    · obtain ⟨a', c', he, hsh⟩ := own_shape hown
      injection he with he1 he2 he3
      subst he1; subst he3
      obtain ⟨g, rfl, hg1, hg2⟩ := hsh.resolve_left (by omega)
      have hold : wr.cell? ⟨g, k, none⟩ = some (.int .i64 (ys[k]?.getD 0)) := own_cell hown hlt
      have hfr := hown.frozenAt k
      have hst := hown.stored k (.int .i64 (-9999))
      have HO : Hid ((wr.setCell ⟨g, k, none⟩ (.int .i64 (-9999))).ownsRow base 2 1 (.slice (some ⟨g, 0, none⟩) N c) N ((ys.set k (-9999)).map (Value.int .i64))) := by
        have h0 := hst.1
        rw [map_set] at h0
        exact h0
      have HG := Lib.hid (grown_trans hgr hst.2)
      clear hown hgr hst hsh he2 h
      go_wp2
      go_roundw
      case rel => exact ⟨k + 1, _, by omega, by go_num, HO.out, HG.out⟩
      case measure => simp [intOf]; omega
    · have hke : k = N := by omega
      subst hke
      have HO := Lib.hid hown
      have HG := Lib.hid hgr
      have HL : Hid (∀ j, (Value.slice a k c).ownBlock = some j → base ≤ j) := fun j hj => (h.lt j hj).1
      have hsz := hgr.size
      have hb' : base ≤ wr.heap.size := by omega
      clear hown hgr h
      go_wp2_with (at_builtin; (refine wpl_append1 24 2 .i64 infoI64 Tryz.underlying24 base _ k ys 5 _ _ _ rfl rfl rfl HO.out rfl (by omega) hb' ?_); intro v' w1 hown1 hbel1 hg1)
      have HG1 := Lib.hid (grown_trans HG.out hg1)
      clear hown1 hbel1 hg1
      go_end0
      exact ⟨rfl, HG1.out, (Below.refl _ _).grown HG1.out hb HL.out⟩

theorem grownR (w : World) (row : Option Nat) : w.grownBy w row := ⟨rfl, rfl, rfl, Nat.le_refl _, fun _ _ _ => rfl⟩
theorem num8_any (e : Int) (w : World) : Calls Tryz.prog 27 #[.int .i64 e] w fun r w' => r = .returned (.int .i64 e) ∧ w = w' := by
  go_enter Tryz.func27, Tryz.ntmps27
  go_wp2
  go_ret
  exact ⟨by first | rfl | simp, rfl⟩
theorem rmayF_any (f : Int) (w : World) : Calls Tryz.prog 6 #[.int .i64 f] w fun r w' => r = .returned (.bool (decide (8 ≤ f) && decide (f ≤ 32))) ∧ w = w' := by
  by_cases h1 : 8 ≤ f
  · by_cases h2 : f ≤ 32
    · go_enter Tryz.func6, Tryz.ntmps6
      go_wp2
      go_ret
      exact ⟨by simp [h1, h2], rfl⟩
    · go_enter Tryz.func6, Tryz.ntmps6
      go_wp2
      go_ret
      exact ⟨by simp [h1, h2], rfl⟩
  · go_enter Tryz.func6, Tryz.ntmps6
    go_wp2
    go_ret
    exact ⟨by simp; omega, rfl⟩
theorem own_intsE {k : IntKind} {w : World} {base c : Nat} {e : TypeId} {a : Option Addr} {xs : List Int} (h : w.ownsRow base e 1 (.slice a xs.length c) xs.length (xs.map (Value.int k))) (hwf : ∀ x ∈ xs, (Lit.int k x).wf = true) : Ints k w w.heap.size a xs := by
  obtain ⟨a2, c2, he, hi⟩ := own_ints h hwf
  simp only [Value.slice.injEq] at he
  obtain ⟨rfl, _, _⟩ := he
  exact hi
theorem ints_nil (w : World) (hi : Nat) : Ints .i64 w hi none [] := ⟨by simp, by simp, fun i h => by simp at h⟩
theorem appendWZ {w : World} {ops : Array Oper} {rest : List Oper} {o : Oper} {a : Act} {Q : Exit → Act → World → Prop}
    (base : Nat) (v : Value) (n : Nat) (xs : List Int) (y : Int) (cap : Nat) (s x : Operand) (hg : o.guard = none) (ho : o.op = .call { callee := .builtin .append, args := #[s, x], argTypes := #[24, 24] })
    (hs : a.eval s = v) (hown : w.ownsRow base 2 1 v n (xs.map (Value.int .i64))) (hx : a.eval x = .slice (some ⟨w.heap.size, 0, none⟩) 1 cap) (hn : n ≤ 1000000) (hb : base ≤ w.heap.size)
    (hK : ∀ v' w', w'.ownsRow base 2 1 v' (n + 1) ((xs ++ [y]).map (Value.int .i64)) → (∀ B W0, B ≤ base → Below B W0 w → Below B W0 w') → w.grownBy w' v.ownBlock → (v'.ownBlock = v.ownBlock ∨ v'.ownBlock = some (w.heap.size + 1)) →
      wpList Tryz.prog ops Q rest (a.put o.dst v') w') : wpList Tryz.prog ops Q (o :: rest) a (w.alloc (.cells #[.int .i64 y] 2)) := by
  obtain ⟨i, hi, hz0, hz1, hz2⟩ := info_parts infoI64Z
  refine wpList_append_own_at _ hg s x _ ho base 2 i (.int .i64 0) 1 8 Tryz.underlying24 hi hz0 hz1 hz2 rfl (by decide) v n _ hs (hown.alloc _) ⟨w.heap.size, 0, none⟩ 1 cap [.int .i64 y] hx rfl (cell_one_new _ _ _)
    (by simp [Value.oneCell']) (by unfold maxLen; omega) (by omega) (by simp; omega) ?_
  intro v' w' hown' hgrow _ hob
  refine hK v' w' (by simpa using hown') (fun B W0 hB hbel => ?_) (grown_trans (World.grownBy_alloc w _ _) hgrow) (by simpa using hob)
  have hlt := hown.lt
  refine (hbel.alloc (Nat.le_trans hB hb) _).grown hgrow (by simp; omega) (fun j hj => ?_)
  have := hlt j hj
  omega
theorem box2_at (w : World) (v0 v1 : Value) (t : TypeId) : (w.alloc (.cells #[v0, v1] t)).cell? ⟨w.heap.size, 0, none⟩ = some v0 ∧ (w.alloc (.cells #[v0, v1] t)).cell? ⟨w.heap.size, 1, none⟩ = some v1 := by
  have h := BoxL.new w [v0, v1] t
  exact ⟨h.cell 0 _ rfl, h.cell 1 _ rfl⟩
set_option maxRecDepth 100000 in
theorem spoilT2_any (a b : Option Addr) (c d base : Nat) (sh ys : List Int) (w : World) (h : w.ownsRow base 3 1 (.slice a sh.length c) sh.length (sh.map (Value.int .i64))) (h2 : w.ownsRow base 2 1 (.slice b ys.length d) ys.length (ys.map (Value.int .i64))) (hne : ∀ g, (Value.slice a sh.length c).ownBlock = some g → (Value.slice b ys.length d).ownBlock ≠ some g) (hn : sh.length ≤ 100000) (hn2 : ys.length ≤ 100000) (hb : base ≤ w.heap.size) :
    Calls Tryz.prog 28 #[.agg #[.slice a sh.length c, .slice b ys.length d]] w fun e w' => e = .returned (.tuple #[]) ∧ ∃ W1 W2, Below w.heap.size w W1 ∧ W1.grownBy W2 (Value.slice a sh.length c).ownBlock ∧ W2.grownBy w' (Value.slice b ys.length d).ownBlock := by
  go_enter Tryz.func28, Tryz.ntmps28
  have HO := Lib.hid (h.alloc (.cells #[.slice a sh.length c, .slice b ys.length d] 26))
  have HP := Lib.hid (h2.alloc (.cells #[.slice a sh.length c, .slice b ys.length d] 26))
  have HB := Lib.hid ((Below.refl w.heap.size w).alloc (Nat.le_refl _) (.cells #[.slice a sh.length c, .slice b ys.length d] 26))
  have HLT := Lib.hid h.lt
  have HLT2 := Lib.hid h2.lt
  have HNE := Lib.hid hne
  have hbx := box2_at w (.slice a sh.length c) (.slice b ys.length d) 26
  have HX := Lib.hid hbx
  clear h h2 hne hbx
  go_upto_region 1 with fail
  obtain ⟨B, hB⟩ : ∃ x, w.heap.size = x := ⟨_, rfl⟩
  obtain ⟨W1, hW1⟩ : ∃ W1, w.alloc (.cells #[.slice a sh.length c, .slice b ys.length d] 26) = W1 := ⟨_, rfl⟩
  have hs1 : W1.heap.size = B + 1 := by rw [← hW1]; simp [hB]
  rw [hW1] at HO HP HB HX ⊢
  rw [hB] at HX HLT HLT2 hb HB ⊢
  clear hW1
  obtain ⟨x0, x1⟩ := HX.out
  have HC1 := Lib.hid (numbers_any a c base sh W1 HO.out (by omega) (by omega))
  go_upto_region 2 with (go_at_call 49; refine HC1.out.mono ?_; rintro e w2 ⟨rfl, hg, hbl⟩; have HG := Lib.hid hg; have HBL := Lib.hid hbl; clear hg hbl)
  have y1 := HG.out.cell x1 (fun e => by have := HLT.out B e.symm; omega)
  have HP2 := Lib.hid (HP.out.kept HG.out (by
    cases hv : (Value.slice a sh.length c).ownBlock with
    | none => cases hv2 : (Value.slice b ys.length d).ownBlock <;> simp
    | some g => exact .inr (HNE.out g hv)))
  have hsz := HG.out.size
  have HC2 := Lib.hid (spoilW_any b d base ys w2 HP2.out (by omega) (by omega))
  clear x0 x1
  go_wp2_with (go_at_call 50; refine HC2.out.mono ?_; rintro e w3 ⟨rfl, hg, hbl⟩; have HG3 := Lib.hid hg; clear hg hbl)
  go_end0
  exact ⟨rfl, _, _, (by rw [hB]; exact HB.out), HG.out, HG3.out⟩
/-- A tensor handed back: rows of one's own. -/
def RetTO (w : World) (sh ys : List Int) (e : Ending) (w' : World) : Prop :=
  ∃ a c b d, e = .returned (.agg #[.slice a sh.length c, .slice b ys.length d]) ∧ Fr w.heap.size w w' [] [] [⟨3, .slice a sh.length c, sh.length, sh.map (Value.int .i64)⟩, ⟨2, .slice b ys.length d, ys.length, ys.map (Value.int .i64)⟩] []
theorem results_cZ {fn : Func} {p : Tmp} {ty : TypeId} (h : fn.results = #[.cell p ty]) (tmps : Array Value) (P : Program) (w : World) :
    (results fn tmps).run P w = ((asAddr (tmps.getD p undef)).run P w).andThen fun a w₁ => (loadVar ty a).run P w₁ := by
  simp only [results, h]
  simp [Sem.run_bind, Result.andThen]
theorem retTen_fr {w w' : World} {xs ys : List Int} {z : Int} {e : Ending} (h : RetTen w xs ys z e w') : RetTF w xs ys z e w' := by
  obtain ⟨a, c, b, d, mid, rfl, h1, h2, _, ⟨_, ho⟩, h3, hb⟩ := h
  refine ⟨a, c, b, d, rfl, hb.size, hb, by simp, .nil, by simp, ?_, by simp, ?_, by simp, .nil⟩
  · intro q hq
    simp only [List.mem_cons, List.not_mem_nil, or_false] at hq
    rcases hq with rfl | rfl
    · exact ho.own
    · exact own_mono h3 h1
  · simp only [List.pairwise_cons, List.mem_cons, List.not_mem_nil, or_false, forall_eq, List.Pairwise.nil, and_true, false_implies, implies_true]
    intro g hg hg2
    have := ho.lt g hg
    have := (h3.lt g hg2).1
    omega
/-- What is told beside a code. -/
def okT (z : Int) (l : List Int) : List Int := if z = 0 then l else []
def erZ (xs ys ids : List Int) : Int := if tenB xs ys = true then embE xs ids else 1
def fOk (f : Int) : Bool := decide (8 ≤ f) && decide (f ≤ 32)
def edB (xs ys : List Int) (x f : Int) : Bool := tenB xs ys && (fOk f && isW x)
def edZ (xs ys ms : List Int) (x f : Int) : Int := if edB xs ys x f = true then dropE ys ms x f.toNat else 1
def erX (xs ys ids : List Int) : List Int := if tenB xs ys = true then embX xs ids else []
def erY (xs ys ids : List Int) : List Int := if tenB xs ys = true then embY xs ys ids else []
def edX (xs ys ms : List Int) (x f : Int) : List Int := if edB xs ys x f = true then dropX xs ys ms x f.toNat else []
def edY (xs ys ms : List Int) (x f : Int) : List Int := if edB xs ys x f = true then dropY ys ms x f.toNat else []

set_option maxRecDepth 100000 in
set_option maxHeartbeats 1000000 in
theorem copyTen_any (a b : Option Addr) (c d : Nat) (xs ys : List Int) (w : World) (h : Ints .i64 w w.heap.size a xs) (h2 : Ints .i64 w w.heap.size b ys) (hn1 : xs.length ≤ 17592186044415) (hn2 : ys.length ≤ 17592186044415) :
    Calls Tryz.prog 10 #[.agg #[.slice a xs.length c, .slice b ys.length d]] w (RetTO w xs ys) := by
  have H0 := Lib.hid h
  have H1 := Lib.hid h2
  clear h h2
  go_enter Tryz.func10, Tryz.ntmps10
  have F1 := Lib.hid (((Fr.start (w := w) (I := [(.i64, a, xs), (.i64, b, ys)]) (by intro z hz; simp at hz; rcases hz with rfl | rfl; exact H0.out; exact H1.out)).box1 (b := w.heap.size) (by simp) [.slice a xs.length c, .slice b ys.length d] 26).box1 (b := w.heap.size + 1) (by simp) [.slice none 0 0, .slice none 0 0] 26)
  simp only [List.nil_append, List.cons_append] at F1
  go_upto_region 1 with fail
  obtain ⟨W1, hW1⟩ : ∃ W1, ((w.alloc (.cells #[.slice a xs.length c, .slice b ys.length d] 26)).alloc (.cells #[.slice none 0 0, .slice none 0 0] 26)) = W1 := ⟨_, rfl⟩
  rw [hW1] at F1 ⊢
  clear hW1
  have c0_0 := F1.out.c 0 0 rfl rfl
  have c0_1 := F1.out.c 0 1 rfl rfl
  go_upto_region 2 with fail
  obtain ⟨Q, hQ⟩ : ∃ x, W1.heap.size = x := ⟨_, rfl⟩
  rw [hQ]
  have F2 := Lib.hid (F1.out.box1 (b := Q) hQ [.slice a xs.length c, .slice b ys.length d] 26)
  simp only [List.nil_append, List.cons_append] at F2
  obtain ⟨W2, hW2⟩ : ∃ x, (W1.alloc (.cells #[.slice a xs.length c, .slice b ys.length d] 26)) = x := ⟨_, rfl⟩
  rw [hW2] at F2 ⊢
  clear hW2 hQ F1 c0_0 c0_1
  have c0_0 := F2.out.c 0 0 rfl rfl
  have c0_1 := F2.out.c 0 1 rfl rfl
  have c2_0 := F2.out.c 2 0 rfl rfl
  have c2_1 := F2.out.c 2 1 rfl rfl
  have cf2_0 := F2.out.f 2 0 rfl rfl
  have cf2_1 := F2.out.f 2 1 rfl rfl
  go_upto_region 3 with (go_at_call 21; refine (copyNumbers_any a c xs W2 (F2.out.lw 0 rfl) hn1).mono ?_; rintro e w3 ⟨v, rfl, hown, hb⟩; obtain ⟨a3, c3, rfl, _⟩ := own_shape hown; have F3 := Lib.hid (F2.out.addO hb hown); simp only [List.nil_append] at F3; clear hown hb F2 c0_0 c0_1 c2_0 c2_1 cf2_0 cf2_1; have d0_0 := F3.out.c 0 0 rfl rfl; have d0_1 := F3.out.c 0 1 rfl rfl; have d2_0 := F3.out.c 2 0 rfl rfl; have d2_1 := F3.out.c 2 1 rfl rfl; have df2_0 := F3.out.f 2 0 rfl rfl; have df2_1 := F3.out.f 2 1 rfl rfl)
  have F4 := Lib.hid (F3.out.setC 2 0 rfl (by simp) (.slice a3 xs.length c3))
  simp only [List.set_cons_zero, List.set_cons_succ] at F4
  obtain ⟨W4, hW4⟩ : ∃ x, w3.setCell ⟨Q, 0, none⟩ (.slice a3 xs.length c3) = x := ⟨_, rfl⟩
  rw [hW4] at F4 ⊢
  clear hW4 F3 d0_0 d0_1 d2_0 d2_1 df2_0 df2_1
  have c0_0 := F4.out.c 0 0 rfl rfl
  have c0_1 := F4.out.c 0 1 rfl rfl
  have c2_0 := F4.out.c 2 0 rfl rfl
  have c2_1 := F4.out.c 2 1 rfl rfl
  have cf2_0 := F4.out.f 2 0 rfl rfl
  have cf2_1 := F4.out.f 2 1 rfl rfl
  go_upto_region 4 with (go_at_call 23; refine (copyWords_any b d ys W4 (F4.out.lw 1 rfl) hn2).mono ?_; rintro e w5 ⟨v, rfl, hown, hb⟩; obtain ⟨a5, c5, rfl, _⟩ := own_shape hown; have F5 := Lib.hid (F4.out.addO hb hown); simp only [List.nil_append, List.cons_append] at F5; clear hown hb F4 c0_0 c0_1 c2_0 c2_1 cf2_0 cf2_1; have d0_0 := F5.out.c 0 0 rfl rfl; have d0_1 := F5.out.c 0 1 rfl rfl; have d2_0 := F5.out.c 2 0 rfl rfl; have d2_1 := F5.out.c 2 1 rfl rfl; have df2_0 := F5.out.f 2 0 rfl rfl; have df2_1 := F5.out.f 2 1 rfl rfl)
  have F6 := Lib.hid (F5.out.setC 2 1 rfl (by simp) (.slice a5 ys.length c5))
  simp only [List.set_cons_zero, List.set_cons_succ] at F6
  obtain ⟨W6, hW6⟩ : ∃ x, w5.setCell ⟨Q, 1, none⟩ (.slice a5 ys.length c5) = x := ⟨_, rfl⟩
  rw [hW6] at F6 ⊢
  clear hW6 F5 d0_0 d0_1 d2_0 d2_1 df2_0 df2_1
  have c1_0 := F6.out.c 1 0 rfl rfl
  have c1_1 := F6.out.c 1 1 rfl rfl
  have c2_0 := F6.out.c 2 0 rfl rfl
  have c2_1 := F6.out.c 2 1 rfl rfl
  have cf1_0 := F6.out.f 1 0 rfl rfl
  have cf1_1 := F6.out.f 1 1 rfl rfl
  go_wp2
  have FZ := F6.out.set 1 rfl (by simp) [.slice a3 xs.length c3, .slice a5 ys.length c5] rfl
  simp only [setL, Nat.reduceAdd, List.set_cons_zero, List.set_cons_succ] at FZ
  have z0 := FZ.c 1 0 rfl rfl
  have z1 := FZ.c 1 1 rfl rfl
  refine bodyPost_ret (v := .agg #[.slice a3 xs.length c3, .slice a5 ys.length c5]) ?_ rfl ⟨a3, c3, a5, c5, rfl, FZ.rows⟩
  rw [results_cZ rfl]
  go_simp
set_option maxRecDepth 100000 in
set_option maxHeartbeats 2000000 in
theorem rdrop_any (a b am : Option Addr) (c d cm f : Nat) (xs ys ms : List Int) (x : Int) (w : World) (h : Ints .i64 w w.heap.size a xs) (h2 : Ints .i64 w w.heap.size b ys) (h3 : Ints .i64 w w.heap.size am ms) (tT : tenB xs ys = true) (hx : isW x = true) (f1 : f ≤ 32) :
    Calls Tryz.prog 9 #[.agg #[.slice a xs.length c, .slice b ys.length d], .slice am ms.length cm, .int .i64 x, .int .i64 f] w (RetTF w (dropX xs ys ms x f) (dropY ys ms x f) (dropE ys ms x f)) := by
  have H0 := Lib.hid h
  have H1 := Lib.hid h2
  have H2 := Lib.hid h3
  have lT := tenB_iff.1 tT
  have h4 := (goodB_iff.1 lT.1).1
  have hP := goodB_prod lT.1
  have hyl : ys.length ≤ 65536 := by omega
  have HYB := Lib.hid lT.2.2
  have HX := Lib.hid hx
  obtain ⟨Z, hZ⟩ : ∃ x9, dropE ys ms x f = x9 := ⟨_, rfl⟩
  have hX : dropX xs ys ms x f = zL Z xs := by unfold dropX zL; rw [hZ]
  have hY : dropY ys ms x f = zL Z ((List.range ys.length).map (dropV ms ys x f)) := by unfold dropY zL; rw [hZ]
  rw [hX, hY, hZ]
  have EZ := Lib.hid hZ
  clear hX hY hZ h h2 h3 lT hP tT hx
  by_cases hl : ms.length = ys.length
  · skip
    have hze : Z = if ((List.range ys.length).all fun j => isW (dropV ms ys x f j)) = true then 0 else 3 := by rw [← EZ.out]; unfold dropE; rw [if_pos hl]
    have HZE := Lib.hid hze
    have HL := Lib.hid hl
    have hli : ((ms.length : Int) != (ys.length : Int)) = false := by rw [hl]; simp
    have HG0 : Hid (∀ i, ms[i]?.getD 0 = 0 → dropV ms ys x f i = 0) := Lib.hid fun i h => by unfold dropV; rw [if_pos h]
    have HG1 : Hid (∀ i, ms[i]?.getD 0 ≠ 0 → shI (ys[i]?.getD 0 * x) f = dropV ms ys x f i) := Lib.hid fun i h => by unfold dropV; rw [if_neg h]
    obtain ⟨G, hG⟩ : ∃ g, dropV ms ys x f = g := ⟨_, rfl⟩
    rw [hG] at HZE HG0 HG1 ⊢
    have hms : ms.length ≤ 65536 := by omega
    clear hze hl hG
    go_enter Tryz.func9, Tryz.ntmps9
    have F1 := Lib.hid (((Fr.start (w := w) (I := [(.i64, a, xs), (.i64, b, ys), (.i64, am, ms)]) (by intro z hz; simp at hz; rcases hz with rfl | rfl | rfl; exact H0.out; exact H1.out; exact H2.out)).box1 (b := w.heap.size) (by simp) [.slice a xs.length c, .slice b ys.length d] 26).box1 (b := w.heap.size + 1) (by simp) [.slice none 0 0, .slice none 0 0] 26)
    simp only [List.nil_append, List.cons_append] at F1
    go_upto_region 1 with fail
    obtain ⟨W1, hW1⟩ : ∃ W1, ((w.alloc (.cells #[.slice a xs.length c, .slice b ys.length d] 26)).alloc (.cells #[.slice none 0 0, .slice none 0 0] 26)) = W1 := ⟨_, rfl⟩
    rw [hW1] at F1 ⊢
    clear hW1
    have c0_0 := F1.out.c 0 0 rfl rfl
    have c0_1 := F1.out.c 0 1 rfl rfl
    go_upto_region 4 with (go_at_call 21; refine (copyNumbers_any a c xs W1 (F1.out.lw 0 rfl) (by omega)).mono ?_; rintro e w3 ⟨v, rfl, hown, hb⟩; obtain ⟨a3, c3, rfl, _⟩ := own_shape hown; have F3 := Lib.hid (F1.out.addO hb hown); simp only [List.nil_append] at F3; clear hown hb F1 c0_0 c0_1)
    obtain ⟨Q, hQ⟩ : ∃ x, w3.heap.size = x := ⟨_, rfl⟩
    rw [hQ]
    have F4 := Lib.hid ((F3.out.box1 (b := Q) hQ [.slice a3 xs.length c3, .slice none 0 0] 26).addNil 2)
    simp only [List.nil_append, List.cons_append] at F4
    obtain ⟨W4, hW4⟩ : ∃ x, (w3.alloc (.cells #[.slice a3 xs.length c3, .slice none 0 0] 26)) = x := ⟨_, rfl⟩
    rw [hW4] at F4 ⊢
    clear hW4 hQ F3
    go_wp2_with fail
    go_loopw [11] (fun s11 wr => ∃ (k : Nat) (ab : Option Addr) (cb : Nat), k ≤ ys.length ∧ s11 = .int .i64 k ∧ Hid (∀ j, j < k → isW (G j) = true) ∧ Hid (Fr w.heap.size w wr [(w.heap.size, [.slice a xs.length c, .slice b ys.length d]), (w.heap.size + 1, [.slice none 0 0, .slice none 0 0]), (Q, [.slice a3 xs.length c3, .slice ab k cb])] [(.i64, a, xs), (.i64, b, ys), (.i64, am, ms)] [⟨3, .slice a3 xs.length c3, xs.length, xs.map (Value.int .i64)⟩, ⟨2, .slice ab k cb, k, ((List.range k).map G).map (Value.int .i64)⟩] [])) (fun s11 _ => ys.length - (intOf s11).toNat)
    case atStart => exact ⟨0, none, 0, Nat.zero_le _, rfl, Lib.hid (by simp), Lib.hid (by simpa using F4.out)⟩
    case round =>
      obtain ⟨k, ab, cb, hk, rfl, HG, F5⟩ := hrel
      clear F4
      obtain ⟨wo, rfl⟩ : ∃ x : World, x = wr := ⟨_, rfl⟩
      by_cases hlt : k < ys.length
      · skip
        have hltm : k < ms.length := by rw [HL.out]; exact hlt
        obtain ⟨gm, om, hmm, hlm, hcm⟩ := (F5.out.l 2 rfl).cell k hltm
        obtain ⟨gy, oy, hyy, hly, hcy⟩ := (F5.out.l 1 rfl).cell k hlt
        obtain ⟨m, hm⟩ : ∃ x, ms[k]?.getD 0 = x := ⟨_, rfl⟩
        obtain ⟨y, hy⟩ : ∃ x, ys[k]?.getD 0 = x := ⟨_, rfl⟩
        have hyW : isW y = true := by rw [← hy, List.getElem?_eq_getElem hlt]; exact HYB.out _ (List.getElem_mem hlt)
        have hg0 := HG0.out k
        have hg1 := HG1.out k
        rw [hm] at hcm hg0 hg1
        rw [hy] at hcy hg1
        have HYK := Lib.hid hyW
        subst hmm
        subst hyy
        have hki : (k : Int) < (ms.length : Int) := by omega
        have hkj : (k : Int) < (ys.length : Int) := by omega
        clear hm hy hyW
        have c0_0 := F5.out.c 0 0 rfl rfl
        have c0_1 := F5.out.c 0 1 rfl rfl
        go_upto_if 35 with fail
        obtain ⟨gk, hgk⟩ : ∃ g, G k = g := ⟨_, rfl⟩
        rw [hgk] at hg0 hg1
        go_cut [12, 13, 35] from 36 to 46 (fun s12 s13 s35 wx => s12 = .int .i64 (wordV gk) ∧ s13 = .int .i64 (wordE gk) ∧ s35 = .bool (m != 0) ∧ Hid (Fr w.heap.size w wx [(w.heap.size, [.slice a xs.length c, .slice (some ⟨gy, oy, none⟩) ys.length d]), (w.heap.size + 1, [.slice none 0 0, .slice none 0 0]), (Q, [.slice a3 xs.length c3, .slice ab k cb])] [(.i64, a, xs), (.i64, (some ⟨gy, oy, none⟩), ys), (.i64, (some ⟨gm, om, none⟩), ms)] [⟨3, .slice a3 xs.length c3, xs.length, xs.map (Value.int .i64)⟩, ⟨2, .slice ab k cb, k, ((List.range k).map G).map (Value.int .i64)⟩] []))
        case first =>
          by_cases hm0 : m = 0
          · skip
            have hgz := hg0 hm0
            have HGZ := Lib.hid hgz
            have hmb : (m != 0) = false := by simp [hm0]
            clear hg0 hg1 hgz hm0
            go_wp2
            go_meet
            exact ⟨by rw [HGZ.out]; rfl, by rw [HGZ.out]; rfl, by rw [hmb], F5⟩
          · skip
            have hgz := hg1 hm0
            have hmb : (m != 0) = true := by simpa using hm0
            have hmu := fun W => ref2Mul_any y x f W HYK.out HX.out (by omega)
            rw [hgz] at hmu
            have HMU := Lib.hid hmu
            clear hg0 hg1 hgz hm0 hmu
            go_wp2_with (go_at_call 22; refine (HMU.out _).mono ?_; rintro e w6 ⟨he, hb⟩; unfold RetV at he; subst he; have F6 := Lib.hid (F5.out.next hb); clear hb F5 c0_0 c0_1)
            go_meet
            exact ⟨rfl, rfl, by rw [hmb], F6⟩
        case rest =>
          obtain ⟨rfl, rfl, rfl, F6⟩ := hcut
          clear F5 hcm hcy hg0 hg1 c0_0 c0_1
          cases hw : isW gk with
          | false =>
            have hv : wordE gk = 3 := by unfold wordE; rw [hw]; rfl
            have hzz : Z = 3 := by
              rw [HZE.out, if_neg]
              intro hq
              have := List.all_eq_true.1 hq k (List.mem_range.2 hlt)
              rw [hgk, hw] at this
              cases this
            rw [hv]
            obtain rfl := hzz
            clear hw hv
            have c1_0 := F6.out.c 1 0 rfl rfl
            have c1_1 := F6.out.c 1 1 rfl rfl
            have cf1_0 := F6.out.f 1 0 rfl rfl
            have cf1_1 := F6.out.f 1 1 rfl rfl
            go_wp2
            have FZ := F6.out.set 1 rfl (by simp) [.slice none 0 0, .slice none 0 0] rfl
            simp only [setL, Nat.reduceAdd, List.set_cons_zero, List.set_cons_succ] at FZ
            have y0 := FZ.c 1 0 rfl rfl
            have y1 := FZ.c 1 1 rfl rfl
            refine bodyPost_ret (v := .tuple #[.agg #[.slice none 0 0, .slice none 0 0], .int .i64 3]) ?_ rfl (retTF_none (FZ.less (.refl _) (.refl _) (List.nil_sublist _) (.refl _)))
            rw [results_ctZ rfl]
            go_simp
          | true =>
            have hv : wordE gk = 0 := by unfold wordE; rw [hw]; rfl
            have hv2 : wordV gk = gk := by unfold wordV; rw [hw]; rfl
            rw [hv, hv2]
            have HG2 : Hid (∀ j, j < k + 1 → isW (G j) = true) := Lib.hid (fun j hj => by
              by_cases he : j < k
              · exact HG.out j he
              · obtain rfl : j = k := by omega
                rw [hgk]; exact hw)
            have hra : (List.range (k + 1)).map G = (List.range k).map G ++ [gk] := by rw [List.range_succ, List.map_append, List.map_cons, List.map_nil, hgk]
            have HRA := Lib.hid hra
            have hq0 := F6.out.c 2 1 rfl rfl
            have hqb := (F6.out.bl 2 rfl).2
            skip
            clear hw hv hv2 hra hgk
            obtain ⟨w7, rfl⟩ : ∃ x : World, x = wc := ⟨_, rfl⟩
            have hq0 := F6.out.c 2 1 rfl rfl
            have hqf := F6.out.f 2 1 rfl rfl
            have hqb := (F6.out.bl 2 rfl).2
            have hqn : ¬ Q = w7.heap.size := by omega
            go_wp2_with (at_builtin; refine appendWZ w.heap.size (.slice ab k cb) k ((List.range k).map G) gk _ _ _ rfl rfl rfl (F6.out.r 1 rfl) rfl (by omega) F6.out.hlo ?_; intro v' w8 hown hbel hgr hob; obtain ⟨a8, c8, rfl, _⟩ := own_shape hown; rw [← HRA.out] at hown; have F8 := Lib.hid (F6.out.wroteO 1 rfl hgr hown (fun g hg => by rcases hob with h | h; exact .inl (h.symm.trans hg); exact .inr (by rw [h] at hg; injection hg with hg; omega))); simp only [List.set_cons_zero, List.set_cons_succ] at F8; clear hown hbel hgr hob F6 hq0 hqf; have hq0 := F8.out.c 2 1 rfl rfl; have hqf := F8.out.f 2 1 rfl rfl)
            have F9 := Lib.hid (F8.out.setC 2 1 rfl (by simp) (.slice a8 (k + 1) c8))
            simp only [List.set_cons_zero, List.set_cons_succ] at F9
            go_roundw
            case rel => exact ⟨k + 1, a8, c8, by omega, by go_num, HG2, F9⟩
            case measure => simp [intOf]; omega
      · obtain rfl : k = ys.length := by omega
        have hzz : Z = 0 := by
          rw [HZE.out, if_pos]
          rw [List.all_eq_true]
          intro j hj
          exact HG.out j (List.mem_range.1 hj)
        obtain rfl := hzz
        have hlen : ((List.range ys.length).map G).length = ys.length := by simp
        obtain ⟨RY, hRY⟩ : ∃ r, (List.range ys.length).map G = r := ⟨_, rfl⟩
        skip
        rw [hRY] at F5 hlen ⊢
        have F6 := F5.out
        skip
        have u2_0 := F5.out.c 2 0 rfl rfl
        have u2_1 := F5.out.c 2 1 rfl rfl
        have u1_0 := F5.out.c 1 0 rfl rfl
        have u1_1 := F5.out.c 1 1 rfl rfl
        have uf1_0 := F5.out.f 1 0 rfl rfl
        have uf1_1 := F5.out.f 1 1 rfl rfl
        have hkm : ¬ (ys.length : Int) < (ms.length : Int) := by rw [HL.out]; omega
        have HRY := Lib.hid hRY
        have HLE := Lib.hid hlen
        clear hRY hlen
        go_wp2
        have FZ := F5.out.set 1 rfl (by simp) [.slice a3 xs.length c3, .slice ab ys.length cb] rfl
        simp only [setL, Nat.reduceAdd, List.set_cons_zero, List.set_cons_succ] at FZ
        have y0 := FZ.c 1 0 rfl rfl
        have y1 := FZ.c 1 1 rfl rfl
        refine bodyPost_ret (v := .tuple #[.agg #[.slice a3 xs.length c3, .slice ab ys.length cb], .int .i64 0]) ?_ rfl (by rw [zL_0, zL_0, HRY.out]; exact ⟨a3, c3, ab, cb, by rw [HLE.out], by rw [HLE.out]; exact FZ.rows⟩)
        rw [results_ctZ rfl]
        go_simp
  · skip
    have hzz : Z = 2 := by rw [← EZ.out]; unfold dropE; rw [if_neg hl]
    obtain rfl := hzz
    have hli : ((ms.length : Int) != (ys.length : Int)) = true := by simp; omega
    go_enter Tryz.func9, Tryz.ntmps9
    have F1 := Lib.hid (((Fr.start (w := w) (I := [(.i64, a, xs), (.i64, b, ys), (.i64, am, ms)]) (by intro z hz; simp at hz; rcases hz with rfl | rfl | rfl; exact H0.out; exact H1.out; exact H2.out)).box1 (b := w.heap.size) (by simp) [.slice a xs.length c, .slice b ys.length d] 26).box1 (b := w.heap.size + 1) (by simp) [.slice none 0 0, .slice none 0 0] 26)
    simp only [List.nil_append, List.cons_append] at F1
    go_upto_region 1 with fail
    obtain ⟨W1, hW1⟩ : ∃ W1, ((w.alloc (.cells #[.slice a xs.length c, .slice b ys.length d] 26)).alloc (.cells #[.slice none 0 0, .slice none 0 0] 26)) = W1 := ⟨_, rfl⟩
    rw [hW1] at F1 ⊢
    clear hW1
    have c0_0 := F1.out.c 0 0 rfl rfl
    have c0_1 := F1.out.c 0 1 rfl rfl
    have c1_0 := F1.out.c 1 0 rfl rfl
    have c1_1 := F1.out.c 1 1 rfl rfl
    have cf1_0 := F1.out.f 1 0 rfl rfl
    have cf1_1 := F1.out.f 1 1 rfl rfl
    go_wp2
    have FZ := F1.out.set 1 rfl (by simp) [.slice none 0 0, .slice none 0 0] rfl
    simp only [setL, Nat.reduceAdd, List.set_cons_zero, List.set_cons_succ] at FZ
    have y0 := FZ.c 1 0 rfl rfl
    have y1 := FZ.c 1 1 rfl rfl
    refine bodyPost_ret (v := .tuple #[.agg #[.slice none 0 0, .slice none 0 0], .int .i64 2]) ?_ rfl (retTF_none (FZ.less (.refl _) (.refl _) (List.nil_sublist _) (.refl _)))
    rw [results_ctZ rfl]
    go_simp
set_option maxRecDepth 100000 in
set_option maxHeartbeats 1000000 in
theorem embRows_all (a b : Option Addr) (c d : Nat) (xs ys : List Int) (a2 : Option Addr) (c2 : Nat) (ids : List Int) (w : World) (h : Ints .i64 w w.heap.size a xs) (h2 : Ints .i64 w w.heap.size b ys) (h3 : Ints .i64 w w.heap.size a2 ids) (hc1 : xs.length ≤ c ∧ c ≤ 9223372036854775807) (hc2 : ys.length ≤ d ∧ d ≤ 9223372036854775807) :
    Calls Tryz.prog 11 #[.agg #[.slice a xs.length c, .slice b ys.length d], .slice a2 ids.length c2] w (RetTF w (erX xs ys ids) (erY xs ys ids) (erZ xs ys ids)) := by
  have H0 := Lib.hid h
  have H1 := Lib.hid h2
  have hT : Ten w w.heap.size a c b d xs ys := ⟨h, h2, hc1.1, hc1.2, hc2.1, hc2.2⟩
  have heg := fun W (h : Ints .i64 W W.heap.size a xs) (h2 : Ints .i64 W W.heap.size b ys) => elemGood_any a b c d xs ys W h h2
  cases ht : tenB xs ys with
  | true =>
    have e1 : erX xs ys ids = embX xs ids := by unfold erX; rw [if_pos ht]
    have e2 : erY xs ys ids = embY xs ys ids := by unfold erY; rw [if_pos ht]
    have e3 : erZ xs ys ids = embE xs ids := by unfold erZ; rw [if_pos ht]
    rw [e1, e2, e3]
    exact (embRows_any a b a2 c d c2 xs ys ids w hT h3 ht).mono fun e w9 hr => retTen_fr hr
  | false =>
    have e1 : erX xs ys ids = [] := by unfold erX; rw [ht]; rfl
    have e2 : erY xs ys ids = [] := by unfold erY; rw [ht]; rfl
    have e3 : erZ xs ys ids = 1 := by unfold erZ; rw [ht]; rfl
    rw [e1, e2, e3]
    rw [ht] at heg
    clear e1 e2 e3 ht hT h h2 h3
    go_enter Tryz.func11, Tryz.ntmps11
    have F1 := Lib.hid (((Fr.start (w := w) (I := [(.i64, a, xs), (.i64, b, ys)]) (by intro z hz; simp at hz; rcases hz with rfl | rfl; exact H0.out; exact H1.out)).box1 (b := w.heap.size) (by simp) [.slice a xs.length c, .slice b ys.length d] 26).box1 (b := w.heap.size + 1) (by simp) [.slice none 0 0, .slice none 0 0] 26)
    simp only [List.nil_append, List.cons_append] at F1
    go_upto_region 1 with fail
    obtain ⟨W1, hW1⟩ : ∃ W1, ((w.alloc (.cells #[.slice a xs.length c, .slice b ys.length d] 26)).alloc (.cells #[.slice none 0 0, .slice none 0 0] 26)) = W1 := ⟨_, rfl⟩
    rw [hW1] at F1 ⊢
    clear hW1
    have c0_0 := F1.out.c 0 0 rfl rfl
    have c0_1 := F1.out.c 0 1 rfl rfl
    go_wp2_with (go_at_call 24; refine (heg _ (F1.out.lw 0 rfl) (F1.out.lw 1 rfl)).mono ?_; rintro e w2 ⟨rfl, hb⟩; have F2 := Lib.hid (F1.out.next hb); clear hb F1 c0_0 c0_1; have d1_0 := F2.out.c 1 0 rfl rfl; have d1_1 := F2.out.c 1 1 rfl rfl; have df1_0 := F2.out.f 1 0 rfl rfl; have df1_1 := F2.out.f 1 1 rfl rfl)
    have FZ := F2.out.set 1 rfl (by simp) [.slice none 0 0, .slice none 0 0] rfl
    simp only [setL, Nat.reduceAdd, List.set_cons_zero, List.set_cons_succ] at FZ
    have y0 := FZ.c 1 0 rfl rfl
    have y1 := FZ.c 1 1 rfl rfl
    refine bodyPost_ret (v := .tuple #[.agg #[.slice none 0 0, .slice none 0 0], .int .i64 1]) ?_ rfl (retTF_none (FZ.less (.refl _) (.refl _) (List.nil_sublist _) (.refl _)))
    rw [results_ctZ rfl]
    go_simp
set_option maxRecDepth 100000 in
set_option maxHeartbeats 1000000 in
theorem embDrop_all (a b : Option Addr) (c d : Nat) (xs ys : List Int) (am : Option Addr) (cm : Nat) (ms : List Int) (x f : Int) (w : World) (h : Ints .i64 w w.heap.size a xs) (h2 : Ints .i64 w w.heap.size b ys) (h3 : Ints .i64 w w.heap.size am ms) (hc1 : xs.length ≤ c ∧ c ≤ 9223372036854775807) (hc2 : ys.length ≤ d ∧ d ≤ 9223372036854775807) :
    Calls Tryz.prog 13 #[.agg #[.slice a xs.length c, .slice b ys.length d], .slice am ms.length cm, .int .i64 x, .int .i64 f] w (RetTF w (edX xs ys ms x f) (edY xs ys ms x f) (edZ xs ys ms x f)) := by
  have H0 := Lib.hid h
  have H1 := Lib.hid h2
  have hT : Ten w w.heap.size a c b d xs ys := ⟨h, h2, hc1.1, hc1.2, hc2.1, hc2.2⟩
  have heg := fun W (h : Ints .i64 W W.heap.size a xs) (h2 : Ints .i64 W W.heap.size b ys) => elemGood_any a b c d xs ys W h h2
  cases ht : edB xs ys x f with
  | true =>
    have e1 : edX xs ys ms x f = dropX xs ys ms x f.toNat := by unfold edX; rw [if_pos ht]
    have e2 : edY xs ys ms x f = dropY ys ms x f.toNat := by unfold edY; rw [if_pos ht]
    have e3 : edZ xs ys ms x f = dropE ys ms x f.toNat := by unfold edZ; rw [if_pos ht]
    rw [e1, e2, e3]
    unfold edB fOk at ht
    simp only [Bool.and_eq_true, decide_eq_true_eq] at ht
    obtain ⟨t1, ⟨t2, t3⟩, t4⟩ := ht
    obtain ⟨f, rfl⟩ : ∃ k : Nat, f = k := ⟨f.toNat, by omega⟩
    rw [Int.toNat_natCast]
    exact (drop_any a b am c d cm f xs ys ms x w hT h3 t1 t4 (by omega) (by omega)).mono fun e w9 hr => retTen_fr hr
  | false =>
    have e1 : edX xs ys ms x f = [] := by unfold edX; rw [ht]; rfl
    have e2 : edY xs ys ms x f = [] := by unfold edY; rw [ht]; rfl
    have e3 : edZ xs ys ms x f = 1 := by unfold edZ; rw [ht]; rfl
    rw [e1, e2, e3]
    clear e1 e2 e3 hT h h2 h3
    have hgx := fun w => fxGood_any x w
    have hgf := fun w => goodF_any f w
    rw [show (decide (8 ≤ f) && decide (f ≤ 32)) = fOk f from rfl] at hgf
    unfold edB at ht
    obtain ⟨t1, e1⟩ : ∃ t, tenB xs ys = t := ⟨_, rfl⟩
    obtain ⟨t2, e2⟩ : ∃ t, fOk f = t := ⟨_, rfl⟩
    obtain ⟨t3, e3⟩ : ∃ t, isW x = t := ⟨_, rfl⟩
    rw [e1, e2, e3] at ht
    rw [e1] at heg
    rw [e2] at hgf
    rw [e3] at hgx
    clear e1 e2 e3
    cases t1 with
    | false =>
      clear ht
      go_enter Tryz.func13, Tryz.ntmps13
      have F1 := Lib.hid (((Fr.start (w := w) (I := [(.i64, a, xs), (.i64, b, ys)]) (by intro z hz; simp at hz; rcases hz with rfl | rfl; exact H0.out; exact H1.out)).box1 (b := w.heap.size) (by simp) [.slice a xs.length c, .slice b ys.length d] 26).box1 (b := w.heap.size + 1) (by simp) [.slice none 0 0, .slice none 0 0] 26)
      simp only [List.nil_append, List.cons_append] at F1
      go_upto_region 1 with fail
      obtain ⟨W1, hW1⟩ : ∃ W1, ((w.alloc (.cells #[.slice a xs.length c, .slice b ys.length d] 26)).alloc (.cells #[.slice none 0 0, .slice none 0 0] 26)) = W1 := ⟨_, rfl⟩
      rw [hW1] at F1 ⊢
      clear hW1
      have c0_0 := F1.out.c 0 0 rfl rfl
      have c0_1 := F1.out.c 0 1 rfl rfl
      go_wp2_with (first | (go_at_call 24; refine (heg _ (F1.out.lw 0 rfl) (F1.out.lw 1 rfl)).mono ?_; rintro e w2 ⟨rfl, hb⟩; have F2 := Lib.hid (F1.out.next hb); clear hb F1 c0_0 c0_1; have d1_0 := F2.out.c 1 0 rfl rfl; have d1_1 := F2.out.c 1 1 rfl rfl; have df1_0 := F2.out.f 1 0 rfl rfl; have df1_1 := F2.out.f 1 1 rfl rfl) | (go_at_call 29; refine (hgx _).mono ?_; rintro e w' ⟨rfl, rfl⟩) | (go_at_call 30; refine (hgf _).mono ?_; rintro e w' ⟨rfl, rfl⟩) | fail)
      have FZ := F2.out.set 1 rfl (by simp) [.slice none 0 0, .slice none 0 0] rfl
      simp only [setL, Nat.reduceAdd, List.set_cons_zero, List.set_cons_succ] at FZ
      have y0 := FZ.c 1 0 rfl rfl
      have y1 := FZ.c 1 1 rfl rfl
      refine bodyPost_ret (v := .tuple #[.agg #[.slice none 0 0, .slice none 0 0], .int .i64 1]) ?_ rfl (retTF_none (FZ.less (.refl _) (.refl _) (List.nil_sublist _) (.refl _)))
      rw [results_ctZ rfl]
      go_simp
    | true =>
      cases t3 with
      | false =>
        clear ht
        go_enter Tryz.func13, Tryz.ntmps13
        have F1 := Lib.hid (((Fr.start (w := w) (I := [(.i64, a, xs), (.i64, b, ys)]) (by intro z hz; simp at hz; rcases hz with rfl | rfl; exact H0.out; exact H1.out)).box1 (b := w.heap.size) (by simp) [.slice a xs.length c, .slice b ys.length d] 26).box1 (b := w.heap.size + 1) (by simp) [.slice none 0 0, .slice none 0 0] 26)
        simp only [List.nil_append, List.cons_append] at F1
        go_upto_region 1 with fail
        obtain ⟨W1, hW1⟩ : ∃ W1, ((w.alloc (.cells #[.slice a xs.length c, .slice b ys.length d] 26)).alloc (.cells #[.slice none 0 0, .slice none 0 0] 26)) = W1 := ⟨_, rfl⟩
        rw [hW1] at F1 ⊢
        clear hW1
        have c0_0 := F1.out.c 0 0 rfl rfl
        have c0_1 := F1.out.c 0 1 rfl rfl
        go_wp2_with (first | (go_at_call 24; refine (heg _ (F1.out.lw 0 rfl) (F1.out.lw 1 rfl)).mono ?_; rintro e w2 ⟨rfl, hb⟩; have F2 := Lib.hid (F1.out.next hb); clear hb F1 c0_0 c0_1; have d1_0 := F2.out.c 1 0 rfl rfl; have d1_1 := F2.out.c 1 1 rfl rfl; have df1_0 := F2.out.f 1 0 rfl rfl; have df1_1 := F2.out.f 1 1 rfl rfl) | (go_at_call 29; refine (hgx _).mono ?_; rintro e w' ⟨rfl, rfl⟩) | (go_at_call 30; refine (hgf _).mono ?_; rintro e w' ⟨rfl, rfl⟩) | fail)
        have FZ := F2.out.set 1 rfl (by simp) [.slice none 0 0, .slice none 0 0] rfl
        simp only [setL, Nat.reduceAdd, List.set_cons_zero, List.set_cons_succ] at FZ
        have y0 := FZ.c 1 0 rfl rfl
        have y1 := FZ.c 1 1 rfl rfl
        refine bodyPost_ret (v := .tuple #[.agg #[.slice none 0 0, .slice none 0 0], .int .i64 1]) ?_ rfl (retTF_none (FZ.less (.refl _) (.refl _) (List.nil_sublist _) (.refl _)))
        rw [results_ctZ rfl]
        go_simp
      | true =>
        cases t2 with
        | false =>
          clear ht
          go_enter Tryz.func13, Tryz.ntmps13
          have F1 := Lib.hid (((Fr.start (w := w) (I := [(.i64, a, xs), (.i64, b, ys)]) (by intro z hz; simp at hz; rcases hz with rfl | rfl; exact H0.out; exact H1.out)).box1 (b := w.heap.size) (by simp) [.slice a xs.length c, .slice b ys.length d] 26).box1 (b := w.heap.size + 1) (by simp) [.slice none 0 0, .slice none 0 0] 26)
          simp only [List.nil_append, List.cons_append] at F1
          go_upto_region 1 with fail
          obtain ⟨W1, hW1⟩ : ∃ W1, ((w.alloc (.cells #[.slice a xs.length c, .slice b ys.length d] 26)).alloc (.cells #[.slice none 0 0, .slice none 0 0] 26)) = W1 := ⟨_, rfl⟩
          rw [hW1] at F1 ⊢
          clear hW1
          have c0_0 := F1.out.c 0 0 rfl rfl
          have c0_1 := F1.out.c 0 1 rfl rfl
          go_wp2_with (first | (go_at_call 24; refine (heg _ (F1.out.lw 0 rfl) (F1.out.lw 1 rfl)).mono ?_; rintro e w2 ⟨rfl, hb⟩; have F2 := Lib.hid (F1.out.next hb); clear hb F1 c0_0 c0_1; have d1_0 := F2.out.c 1 0 rfl rfl; have d1_1 := F2.out.c 1 1 rfl rfl; have df1_0 := F2.out.f 1 0 rfl rfl; have df1_1 := F2.out.f 1 1 rfl rfl) | (go_at_call 29; refine (hgx _).mono ?_; rintro e w' ⟨rfl, rfl⟩) | (go_at_call 30; refine (hgf _).mono ?_; rintro e w' ⟨rfl, rfl⟩) | fail)
          have FZ := F2.out.set 1 rfl (by simp) [.slice none 0 0, .slice none 0 0] rfl
          simp only [setL, Nat.reduceAdd, List.set_cons_zero, List.set_cons_succ] at FZ
          have y0 := FZ.c 1 0 rfl rfl
          have y1 := FZ.c 1 1 rfl rfl
          refine bodyPost_ret (v := .tuple #[.agg #[.slice none 0 0, .slice none 0 0], .int .i64 1]) ?_ rfl (retTF_none (FZ.less (.refl _) (.refl _) (List.nil_sublist _) (.refl _)))
          rw [results_ctZ rfl]
          go_simp
        | true => cases ht
set_option maxRecDepth 100000 in
set_option maxHeartbeats 1000000 in
theorem is8_any (a b p q : Option Addr) (c d cp cq base : Nat) (sh st ps pt : List Int) (e bad : Int) (w : World) (h : w.ownsRow base 3 1 (.slice a sh.length c) sh.length (sh.map (Value.int .i64))) (h2 : w.ownsRow base 2 1 (.slice b st.length d) st.length (st.map (Value.int .i64))) (hne : ∀ g, (Value.slice a sh.length c).ownBlock = some g → (Value.slice b st.length d).ownBlock ≠ some g) (hn : sh.length ≤ 100000) (hn2 : st.length ≤ 100000) (hb : base ≤ w.heap.size)
    (hw1 : ∀ x ∈ sh, (Lit.int .i64 x).wf = true) (hw2 : ∀ x ∈ st, (Lit.int .i64 x).wf = true) (h3 : Ints .i64 w w.heap.size p ps) (h4 : Ints .i64 w w.heap.size q pt) (he : e = bad) (h0 : bad = 0 → sh = ps ∧ st = pt) (h1 : bad ≠ 0 → sh = [] ∧ st = []) :
    Calls Tryz.prog 12 #[.agg #[.slice a sh.length c, .slice b st.length d], .int .i64 e, .agg #[.slice p ps.length cp, .slice q pt.length cq], .int .i64 bad] w fun r w' => r = .returned (.bool true) ∧ ∃ W1 W2, Below w.heap.size w W1 ∧ W1.grownBy W2 (Value.slice a sh.length c).ownBlock ∧ W2.grownBy w' (Value.slice b st.length d).ownBlock := by
  subst he
  have HO := Lib.hid h
  have HP := Lib.hid h2
  have H3 := Lib.hid h3
  have H4 := Lib.hid h4
  have HNE := Lib.hid hne
  have hi1 := (own_intsE h hw1)
  have hi2 := (own_intsE h2 hw2)
  have HI1 := Lib.hid hi1
  have HI2 := Lib.hid hi2
  clear h h2 h3 h4 hne hw1 hw2 hi1 hi2
  by_cases hz : e = 0
  · obtain ⟨rfl, rfl⟩ := h0 hz
    subst hz
    clear h0 h1
    have F0 := Lib.hid (Fr.start (w := w) (I := [(.i64, a, sh), (.i64, b, st), (.i64, p, sh), (.i64, q, st)]) (by intro z hz; simp at hz; rcases hz with rfl | rfl | rfl | rfl; exact HI1.out; exact HI2.out; exact H3.out; exact H4.out))
    go_enter Tryz.func12, Tryz.ntmps12
    have F1 := Lib.hid ((F0.out.box1 (b := w.heap.size) rfl [.slice a sh.length c, .slice b st.length d] 26).box1 (b := w.heap.size + 1) (by simp) [.slice p sh.length cp, .slice q st.length cq] 26)
    simp only [List.nil_append, List.cons_append] at F1
    go_upto_region 1 with fail
    obtain ⟨W1, hW1⟩ : ∃ W1, ((w.alloc (.cells #[.slice a sh.length c, .slice b st.length d] 26)).alloc (.cells #[.slice p sh.length cp, .slice q st.length cq] 26)) = W1 := ⟨_, rfl⟩
    rw [hW1] at F1 ⊢
    clear hW1 F0
    have c0_0 := F1.out.c 0 0 rfl rfl
    have c0_1 := F1.out.c 0 1 rfl rfl
    have c1_0 := F1.out.c 1 0 rfl rfl
    have c1_1 := F1.out.c 1 1 rfl rfl
    have hev := eqTensor_any a b p q c d cp cq sh st sh st W1 (F1.out.lw 0 rfl) (F1.out.lw 1 rfl) (F1.out.lw 2 rfl) (F1.out.lw 3 rfl)
    simp only [decide_true, Bool.and_true] at hev
    have HEV := Lib.hid hev
    clear hev
    go_upto_region 4 with (first | (go_at_call 27; refine (num8_any _ _).mono ?_; rintro e w' ⟨rfl, rfl⟩) | (go_at_call 14; refine (HEV.out).mono ?_; rintro e w2 ⟨rfl, hb⟩; have F2 := Lib.hid (F1.out.next hb); clear hb F1 c0_0 c0_1 c1_0 c1_1; have d0_0 := F2.out.c 0 0 rfl rfl; have d0_1 := F2.out.c 0 1 rfl rfl) | fail)
    have HS := Lib.hid (spoilT2_any a b c d base sh st w2 (own_below HO.out F2.out.bel (Nat.le_refl _)) (own_below HP.out F2.out.bel (Nat.le_refl _)) HNE.out hn hn2 (by have := F2.out.hlo; omega))
    go_wp2_with (go_at_call 28; refine HS.out.mono ?_; rintro e w3 ⟨rfl, U1, U2, hb1, hg2, hg3⟩; have G1 := Lib.hid hb1; have G2 := Lib.hid hg2; have G3 := Lib.hid hg3; clear hb1 hg2 hg3)
    go_ret
    exact ⟨rfl, U1, U2, F2.out.bel.trans (G1.out.mono F2.out.hlo), G2.out, G3.out⟩
  · skip
    obtain ⟨rfl, rfl⟩ := h1 hz
    have hz2 : (e != 0) = true := by simpa using hz
    clear h0 h1
    have F0 := Lib.hid (Fr.start (w := w) (I := [(.i64, a, []), (.i64, b, [])]) (by intro z hz; simp at hz; rcases hz with rfl | rfl; exact HI1.out; exact HI2.out))
    simp only [List.length_nil]
    go_enter Tryz.func12, Tryz.ntmps12
    have F1 := Lib.hid ((F0.out.box1 (b := w.heap.size) rfl [.slice a 0 c, .slice b 0 d] 26).box1 (b := w.heap.size + 1) (by simp) [.slice p ps.length cp, .slice q pt.length cq] 26)
    simp only [List.nil_append, List.cons_append] at F1
    go_upto_region 1 with fail
    obtain ⟨W1, hW1⟩ : ∃ W1, ((w.alloc (.cells #[.slice a 0 c, .slice b 0 d] 26)).alloc (.cells #[.slice p ps.length cp, .slice q pt.length cq] 26)) = W1 := ⟨_, rfl⟩
    rw [hW1] at F1 ⊢
    clear hW1 F0
    have c0_0 := F1.out.c 0 0 rfl rfl
    have c0_1 := F1.out.c 0 1 rfl rfl
    have c1_0 := F1.out.c 1 0 rfl rfl
    have c1_1 := F1.out.c 1 1 rfl rfl
    have hev := eqTensor_any a b none none c d 0 0 [] [] [] [] W1 (F1.out.lw 0 rfl) (F1.out.lw 1 rfl) (ints_nil _ _) (ints_nil _ _)
    simp only [decide_true, Bool.and_true, List.length_nil] at hev
    have HEV := Lib.hid hev
    clear hev
    go_wp2_with (first | (go_at_call 27; refine (num8_any _ _).mono ?_; rintro e w' ⟨rfl, rfl⟩) | (go_at_call 14; refine (HEV.out).mono ?_; rintro e w2 ⟨rfl, hb⟩; have F2 := Lib.hid (F1.out.next hb); clear hb F1) | fail)
    go_ret
    exact ⟨rfl, _, _, F2.out.bel, grownR _ _, grownR _ _⟩
end Go.Proofs.YtimjhjacinchjaaGreat
