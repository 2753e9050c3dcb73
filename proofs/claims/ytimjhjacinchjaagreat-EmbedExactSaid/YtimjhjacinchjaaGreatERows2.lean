/- Walks: rows that are named. -/
import Derived.Test.YtimjhjacinchjaaGreatERows
import Derived.WalkMore
import Derived.Deep.CutBlock
import Derived.Deep.AppendLies
import Derived.Sort.OwnSorted
set_option linter.unusedVariables false
set_option linter.unusedSimpArgs false
namespace Go.Proofs.YtimjhjacinchjaaGreat
open Go.RowKit Go.Rt

attribute [local go_sem] Oper.semAt_some

/-- 'append(l, row...)' of words, within a fence. -/
theorem appendRowIn {F : Fence} {n : Nat} {w : World} {ops : Array Oper} {rest : List Oper} {o : Oper} {a : Act} {Q : Exit → Act → World → Prop}
    (base : Nat) (v : Value) (k : Nat) (xs vals : List Int) (ad : Addr) (m c : Nat) (s x : Operand) (hg : o.guard = none) (ho : o.op = .call { callee := .builtin .append, args := #[s, x], argTypes := #[24, 24] })
    (hs : a.eval s = v) (hown : w.ownsRow base 2 1 v k (xs.map (Value.int .i64))) (hx : a.eval x = .slice (some ad) m c) (hm : vals.length = m) (hc : ∀ j, j < m → w.cell? (ad.add j) = some (.int .i64 (vals[j]?.getD 0))) (b1 : k + m ≤ 17592186044415) (hb : base ≤ w.heap.size)
    (hK : ∀ v' w', w'.ownsRow base 2 1 v' (k + m) ((xs ++ vals).map (Value.int .i64)) → w.grownBy w' v.ownBlock → wpListIn F n Tryz.prog ops Q rest (a.put o.dst v') w') : wpListIn F n Tryz.prog ops Q (o :: rest) a w := by
  obtain ⟨i, hi, hz0, hz1, hz2⟩ := info_parts infoI64
  refine wpListIn_append_own w hg s x _ ho base 2 i (.int .i64 0) 1 8 Tryz.underlying24 hi hz0 hz1 hz2 rfl (by decide) v k _ hs hown ad m c (vals.map (Value.int .i64)) hx (by simp [hm])
    (fun j u hu => ?_) (by intro u hu; obtain ⟨y, _, rfl⟩ := List.mem_map.1 hu; rfl) (by unfold maxLen; omega) (by omega) hb ?_
  · simp only [List.getElem?_map, Option.map_eq_some_iff] at hu
    obtain ⟨y, hy, rfl⟩ := hu
    have hj : j < vals.length := (List.getElem?_eq_some_iff.1 hy).1
    rw [hc j (by omega), hy]
    rfl
  · intro v' w' hown' hgrow _
    exact hK v' w' (by rw [List.map_append]; exact hown') hgrow

theorem retTen_err2 {w w' : World} {z : Int} (hb : Below w.heap.size w w') : RetTen w [] [] z (.returned (.tuple #[.agg #[.slice none 0 0, .slice none 0 0], .int .i64 z])) w' :=
  ⟨none, 0, none, 0, w'.heap.size, rfl, hb.size, Nat.le_refl _, Ints.nil _ _ _ _, ⟨⟨by simp, by decide⟩, ownB_nil _ _ _ _⟩, World.ownsRow_nil _ _ _ _, hb⟩
theorem ints2At {W : World} {b hi : Nat} {x y : Int} (hb : b < hi) (h0 : W.cell? ⟨b, 0, none⟩ = some (.int .i64 x)) (h1 : W.cell? ⟨b, 1, none⟩ = some (.int .i64 y)) (hx : (Lit.int .i64 x).wf = true) (hy : (Lit.int .i64 y).wf = true) : Ints .i64 W hi (some ⟨b, 0, none⟩) [x, y] :=
  ⟨by simp, by simp [hx, hy], fun i hi => by
    match i, hi with
    | 0, _ => exact ⟨b, 0, rfl, hb, h0⟩
    | 1, _ => exact ⟨b, 0, rfl, hb, h1⟩⟩
theorem list2 {xs : List Int} (h : xs.length = 2) : ∃ r dd, xs = [r, dd] := by
  match xs, h with
  | [r, dd], _ => exact ⟨r, dd, rfl⟩
theorem Box2.kept {W W' : World} {b : Nat} {v0 v1 : Value} {row : Option Nat} (h : Box2 W b v0 v1) (hg : W.grownBy W' row) (hr : some b ≠ row) : Box2 W' b v0 v1 := by
  have hl := World.block_lt_of_cell? W _ h.c0
  exact ⟨(hg.cell_far ⟨b, 0, none⟩ hl hr).trans h.c0, (hg.cell_far ⟨b, 1, none⟩ hl hr).trans h.c1, (hg.frozen_far ⟨b, 0, none⟩ hl hr).trans h.f0, (hg.frozen_far ⟨b, 1, none⟩ hl hr).trans h.f1⟩
theorem own_cells {W W' : World} {base : Nat} {e : TypeId} {size k : Nat} {v : Value} {xs : List Value} {row : Option Nat} (h : W.ownsRow base e size v k xs) (hg : W.grownBy W' row) (hr : ∀ r, row = some r → ∃ o : Obj, W.heap[r]? = some o ∧ o.isCells = false) : W'.ownsRow base e size v k xs := by
  refine h.kept hg ?_
  rcases h.2 with ⟨rfl, _⟩ | ⟨g, cap, cur, rfl, _, hgb, _⟩
  · exact .inl rfl
  · refine .inr fun e' => ?_
    obtain ⟨o, ho, hc⟩ := hr g (by simpa [Value.ownBlock] using e'.symm)
    rw [hgb] at ho; cases ho; cases hc
/-- A variable of two cells whose second one is a row of one's own: what a round that appends to it owes. -/
theorem box_appended {W w1 w4 : World} {n₀ U : Nat} {e : TypeId} {s0 v v' : Value} {k m : Nat} {xs ys : List Value} (hb : Box2 W U s0 v) (hU : U < n₀) (hn : n₀ ≤ W.heap.size) (hrow : W.ownsRow n₀ e 1 v k xs) (hown : w1.ownsRow n₀ e 1 v' m ys) (hgrow : W.grownBy w1 v.ownBlock) (hbel : Below U w4 W) (hU4 : U ≤ w4.heap.size) :
    Box2 w1 U s0 v ∧ Box2 (w1.setCell ⟨U, 1, none⟩ v') U s0 v' ∧ (w1.setCell ⟨U, 1, none⟩ v').ownsRow n₀ e 1 v' m ys ∧ KeepsOthers W (w1.setCell ⟨U, 1, none⟩ v') ∧ Save n₀ U W (w1.setCell ⟨U, 1, none⟩ v') ∧ Below U w4 (w1.setCell ⟨U, 1, none⟩ v') := by
  have hne : some U ≠ v.ownBlock := Go.row_ne_low hrow hU
  have hne' : some U ≠ v'.ownBlock := Go.row_ne_low hown hU
  have hb1 := hb.kept hgrow hne
  have hg2 : w1.grownBy (w1.setCell ⟨U, 1, none⟩ v') (some U) := Go.Lib.grownBy_setCell w1 U 1 v'
  refine ⟨hb1, ?_, hown.kept hg2 (.inr hne'.symm), ?_, ?_, ?_⟩
  · obtain ⟨c0, c1, f0, f1⟩ := hb1
    constructor <;> go_simp
  · refine (KeepsOthers.of_grownBy hgrow fun j o ej hj => ?_).trans (KeepsOthers.setCell _ _ _)
    rcases hrow.2 with ⟨rfl, _⟩ | ⟨g, cap, cur, rfl, _, hgb, _⟩
    · simp [Value.ownBlock] at ej
    · obtain rfl : g = j := by simpa [Value.ownBlock] using ej
      rw [hgb] at hj; cases hj; rfl
  · refine Save.trans (B := w1) ⟨hgrow.size, fun j hj hjU => hgrow.block j (by omega) ?_⟩ ⟨hg2.size, fun j hj hjU => hg2.block j (by have := hgrow.size; omega) (fun e => hjU (by cases e; rfl))⟩
    exact Go.row_ne_low hrow hj
  · refine (hbel.grown hgrow (by omega) (fun j hj => ?_)).setCell (p := ⟨U, 1, none⟩) (Nat.le_refl _) v'
    have := Go.row_ne_low hrow (b := j)
    by_cases hjn : j < n₀
    · exact absurd hj.symm (this hjn)
    · omega

set_option maxHeartbeats 4000000 in
set_option maxRecDepth 100000 in
theorem embRows_any (a b a2 : Option Addr) (c d c2 : Nat) (xs ys ids : List Int) (w : World) (hT : Ten w w.heap.size a c b d xs ys) (hI : Ints .i64 w w.heap.size a2 ids) (tT : tenB xs ys = true) :
    Calls Tryz.prog 11 #[.agg #[.slice a xs.length c, .slice b ys.length d], .slice a2 ids.length c2] w (RetTen w (embX xs ids) (embY xs ys ids) (embE xs ids)) := by
  have hg := fun w' (hb : Below w.heap.size w w') => Lib.hid (elemGood_any a b c d xs ys w' (hT.next hb).sh (hT.next hb).da)
  rw [tT] at hg
  have lT := tenB_iff.1 tT
  have hou := fun w' (hb : Below w.heap.size w w') => Lib.hid (embOut_any a a2 c c2 xs ids w' (hT.next hb).sh ((hI.below hb (Nat.le_refl _)).mono hb.size))
  by_cases hE : embE xs ids = 0
  · as_aux_lemma =>
      have eX : embX xs ids = [(ids.length : Int), xs[1]?.getD 0] := by unfold embX; rw [if_pos hE]
      have eY : embY xs ys ids = rowsY (xs[1]?.getD 0).toNat ys ids := by unfold embY; rw [if_pos hE]
      have hcond := hE
      unfold embE at hcond
      have hc1 : (decide (xs.length = 2) && (decide (ids.length ≠ 0) && idsB (xs[0]?.getD 0) ids)) = true := by
        cases h : (decide (xs.length = 2) && (decide (ids.length ≠ 0) && idsB (xs[0]?.getD 0) ids)) with
        | true => rfl
        | false => rw [h, if_neg (by decide)] at hcond; cases hcond
      rw [hc1, if_pos rfl] at hcond
      have hgS : goodB [(ids.length : Int), xs[1]?.getD 0] = true := by
        cases h : goodB [(ids.length : Int), xs[1]?.getD 0] with
        | true => rfl
        | false => rw [h, if_neg (by decide)] at hcond; cases hcond
      simp only [Bool.and_eq_true, decide_eq_true_eq] at hc1
      obtain ⟨h2, hn0, hib⟩ := hc1
      obtain ⟨r, dd, rfl⟩ := list2 h2
      simp only [List.getElem?_cons_zero, List.getElem?_cons_succ, Option.getD_some] at *
      have hdr := (goodB_dims lT.1).at (show 0 < 2 by decide)
      have hdd := (goodB_dims lT.1).at (show 1 < 2 by decide)
      simp only [List.getElem_cons_zero, List.getElem_cons_succ] at hdr hdd
      obtain ⟨R, rfl⟩ : ∃ R : Nat, r = (R : Int) := ⟨r.toNat, by omega⟩
      obtain ⟨D, rfl⟩ : ∃ D : Nat, dd = (D : Int) := ⟨dd.toNat, by omega⟩
      have hR : 0 < R := by omega
      have hD : 1 ≤ D := by omega
      have hlen : ys.length = R * D := by have := lT.2.1; simp [prodI] at this; rw [← Int.natCast_mul] at this; omega
      have hids := idsB_iff.1 hib
      have hND := (goodB_prod hgS).2
      simp [prodI] at hND
      rw [← Int.natCast_mul] at hND
      have hND2 : ids.length * D ≤ 65536 := by omega
      rw [hE] at hou
      rw [hE, eX, eY, Int.toNat_natCast]
      obtain ⟨bI, oI, eI, lI, _⟩ := hI.cell 0 (by omega)
      subst eI
      obtain ⟨bD, oD, eD, lD, _⟩ := hT.da.cell 0 (by rw [hlen]; exact Nat.mul_pos hR hD)
      subst eD
      have hil := hI.len
      have hyl := hT.da.len
      have hd1 := hT.d1
      have hd2 := hT.d2
      replace hg : ∀ w' (hb : Below w.heap.size w w'), Hid (Calls Tryz.prog 24 #[.agg #[.slice a 2 c, .slice (some ⟨bD, oD, none⟩) ys.length d]] w' fun e w2 => e = .returned (.bool true) ∧ Below w'.heap.size w' w2) := hg
      replace hou : ∀ w' (hb : Below w.heap.size w w'), Hid (Calls Tryz.prog 25 #[.slice a 2 c, .slice (some ⟨bI, oI, none⟩) ids.length c2] w' (RetOut2 w' ids.length (D : Int) 0)) := hou
      change Calls _ _ #[.agg #[.slice a 2 c, .slice (some ⟨bD, oD, none⟩) ys.length d], .slice (some ⟨bI, oI, none⟩) ids.length c2] _ _
      have hX2 := hT.sh
      have HT := Lib.hid hT
      have HI := Lib.hid hI
      have HL := Lib.hid hlen
      have HIDS := Lib.hid hids
      have HND := Lib.hid hND2
      have HGS := Lib.hid hgS
      clear hE eX eY hcond hgS hib h2 hdr hdd lT tT hlen hids hND hND2 hT hI
      refine (callsIn_wide (n := 9)).1 ?_
      refine callsIn_of_wp_marks Tryz.func11 rfl trivial ?_ rfl
      simp only [Tryz.ntmps11, List.size_toArray, List.length_cons, List.length_nil, Nat.reduceAdd, Nat.reduceSub, Array.replicate_succ, Array.replicate_zero, List.push_toArray, List.append_toArray, List.nil_append, List.cons_append]
      refine wpIn_wide.2 ?_
      go_upto_region 6 with (first | (go_at_call 24; refine (hg _ (by (repeat' (first | exact Below.refl _ _ | refine below_drewN ?_ _ | refine Below.drew ?_ | refine Below.setCell ?_ (by first | omega | (simp <;> omega)) _ | refine Below.alloc ?_ (by first | omega | (simp <;> omega)) _)))).out.mono ?_; rintro e w1 ⟨rfl, hb⟩; have HB1 : Hid (Below w.heap.size w w1) := Lib.hid (Below.trans (by (repeat' (first | exact Below.refl _ _ | refine below_drewN ?_ _ | refine Below.drew ?_ | refine Below.setCell ?_ (by first | omega | (simp <;> omega)) _ | refine Below.alloc ?_ (by first | omega | (simp <;> omega)) _))) (hb.mono (by first | omega | (simp <;> omega)))); have hs1 := hb.size; (try simp at hs1); have p := Box2.below (b := w.heap.size) (v0 := .slice a 2 c) (v1 := .slice (some ⟨bD, oD, none⟩) ys.length d) (by constructor <;> go_simp) hb (by first | omega | (simp <;> omega)); have Hp := Lib.hid p; obtain ⟨p0, p1, p2, p3⟩ := p; have q := Box2.below (b := w.heap.size + 1) (v0 := .slice none 0 0) (v1 := .slice none 0 0) (by constructor <;> go_simp) hb (by first | omega | (simp <;> omega)); have Hq := Lib.hid q; obtain ⟨q0, q1, q2, q3⟩ := q; clear hb) | (go_at_call 25; refine (hou _ HB1.out).out.mono ?_; rintro e w2 ⟨hb, hz⟩; rw [if_pos rfl] at hz; obtain ⟨gS, rfl, hgS1, s0, s1, so⟩ := hz; have HSO := Lib.hid (OwnB.of so); clear so; have hs2 := hb.size; have p2 := Hp.out.below hb (by omega); have q2 := Hq.out.below hb (by omega); have HB2 : Hid (Below w.heap.size w w2) := Lib.hid (HB1.out.trans (hb.mono HB1.out.size)); have HP2 := Lib.hid p2; have HQ2 := Lib.hid q2; have HS0 := Lib.hid s0; have HS1 := Lib.hid s1; clear hb p0 p1 p2 p3 q0 q1 q2 q3 s0 s1; obtain ⟨p0, p1, p2, p3⟩ := HP2.out; obtain ⟨q0, q1, q2, q3⟩ := HQ2.out))
      have hgS2 : gS < w2.heap.size := World.block_lt_of_cell? w2 _ HS0.out
      go_upto_region 7 with fail
      obtain ⟨W3, hW3⟩ : ∃ W3 : World, w2.alloc (.cells #[.slice (some ⟨gS, 0, none⟩) 2 2, .slice none 0 0] 26) = W3 := ⟨_, rfl⟩
      have b3 : Below w2.heap.size w2 W3 := by rw [← hW3]; exact (Below.refl _ _).alloc (Nat.le_refl _) _
      have z3 : W3.heap.size = w2.heap.size + 1 := by rw [← hW3]; simp
      have U3 : Box2 W3 w2.heap.size (.slice (some ⟨gS, 0, none⟩) 2 2) (.slice none 0 0) := by rw [← hW3]; exact box2_new _ _ _ _
      rw [hW3]
      clear hW3 p0 p1 p2 p3 q0 q1 q2 q3
      have p3 := HP2.out.below b3 (by omega)
      obtain ⟨p0, p1, p2, p4⟩ := p3
      have hbw3 := HB2.out.trans (b3.mono HB2.out.size)
      have HSO3 := HSO.out.below b3 (Nat.le_refl _)
      have hT3 := HT.out.next hbw3
      have hrw := Lib.hid (rows_any a (some ⟨bD, oD, none⟩) (some ⟨bI, oI, none⟩) c d c2 ys ids (R : Int) (D : Int) W3 hT3.sh)
      go_upto_block 0 with (go_at_call 26; refine hrw.out.mono ?_; rintro e w4 ⟨rfl, hb4, z4, k1, k2, k3⟩)
      have U4 := U3.below hb4 (by omega)
      have HSO4 := Lib.hid (HSO3.below hb4 (by omega))
      clear HSO HSO3
      have hbw4 : Below w.heap.size w w4 := hbw3.trans (hb4.mono hbw3.size)
      have hS4 : Ints .i64 w4 w2.heap.size (some ⟨gS, 0, none⟩) [(ids.length : Int), (D : Int)] := by
        have hbb : Below w2.heap.size w2 w4 := b3.trans (hb4.mono b3.size)
        refine ints2At hgS2 ((hbb.cell (p := ⟨gS, 0, none⟩) hgS2).trans HS0.out) ((hbb.cell (p := ⟨gS, 1, none⟩) hgS2).trans HS1.out) ?_ ?_
        · exact wf_i64_iff.2 ⟨by omega, by omega⟩
        · exact HT.out.sh.wf _ (by simp)
      have hR4 := (HQ2.out.below b3 (by omega)).below hb4 (by omega)
      have hI4 := HI.out.below hbw4 (Nat.le_refl _)
      have hT4 := HT.out.below hbw4 (Nat.le_refl _)
      generalize hU : w2.heap.size = U at *
      have z5 : w4.heap.size = U + 4 := by omega
      have hwU : w.heap.size + 1 < U := by omega
      have hgU : gS < U := hgS2
      (try rw [z3] at k1)
      (try rw [z3] at k2)
      (try rw [z3] at k3)
      have HW4 := Lib.hid hbw4
      have HR4 := Lib.hid hR4
      have HS4 := Lib.hid hS4
      have HI4 := Lib.hid hI4
      have HT4 := Lib.hid hT4
      have HU4 := Lib.hid U4
      clear hbw3 hbw4 hR4 hS4 hI4 hT4 hT3 hrw hb4 b3 U3 U4 p0 p1 p2 p4 HB1 HB2 HP2 HQ2 Hp Hq HS0 HS1 hg hou hX2
      go_wp2
      refine wpIn_wide.1 (wpIn_rangeFunc_ownF (n := 9) rfl (by omega) (gf := 48) (lb := #[.pointer (some ⟨U + 1 + 1, 0, none⟩), .pointer (some ⟨U + 1, 0, none⟩), .pointer (some ⟨U + 1 + 1 + 1, 0, none⟩)]) rfl trivial (enters_of Tryz.func48 (by kernel_rfl) rfl)
        (encs := fun x : Fin R => #[.slice (some ⟨bD, oD + x.val * D, none⟩) D D]) (Kp := Save (U + 4) U) (S := fun xs => xs.map (fun k => (k.val : Int)) = ids) (Sp := fun _ => True) (N := ids.length) (w0 := w4) ?seq Save.trans (Save.put (by omega)) (Below.refl _ _) (fun _ => rfl)
        (fun (pre : List (Fin R)) W => (∃ v, Box2 W U (.slice (some ⟨gS, 0, none⟩) 2 2) v ∧ W.ownsRow (U + 4) 2 1 v (pre.length * D) ((rowsY D ys (pre.map (fun k => (k.val : Int)))).map (Value.int .i64))) ∧ Below U w4 W) (fun _ _ _ => False) ?own (fun _ _ _ _ _ h _ _ => h.elim) ?init (fun x => { tmps := #[.agg #[.slice a 2 c, .slice (some ⟨bD, oD, none⟩) ys.length d], .slice (some ⟨bI, oI, none⟩) ids.length c2, .pointer (some ⟨w.heap.size, 0, none⟩), undef, .pointer (some ⟨w.heap.size + 1, 0, none⟩), .int .i64 0, .slice (some ⟨gS, 0, none⟩) 2 2, .int .i64 0, .pointer (some ⟨U, 0, none⟩), .slice (some ⟨bD, oD + x.val * D, none⟩) D D, .agg #[.slice a 2 c, .slice (some ⟨bD, oD, none⟩) ys.length d], .bool true, .bool false, undef, .tuple #[.slice (some ⟨gS, 0, none⟩) 2 2, .int .i64 0], .pointer (some ⟨w.heap.size, 0, none⟩), .slice a 2 c, .slice (some ⟨bI, oI, none⟩) ids.length c2, .tuple #[.slice (some ⟨gS, 0, none⟩) 2 2, .int .i64 0], .slice (some ⟨gS, 0, none⟩) 2 2, .int .i64 0, .int .i64 0, .bool false, undef, undef, .slice (some ⟨gS, 0, none⟩) 2 2, .agg #[.slice (some ⟨gS, 0, none⟩) 2 2, .slice none 0 0], .agg #[.slice a 2 c, .slice (some ⟨bD, oD, none⟩) ys.length d], .slice (some ⟨bI, oI, none⟩) ids.length c2, .func (.func 48) #[] #[.pointer (some ⟨U + 1 + 1, 0, none⟩), .pointer (some ⟨U + 1, 0, none⟩), .pointer (some ⟨U + 1 + 1 + 1, 0, none⟩)], .slice (some ⟨bD, oD + x.val * D, none⟩) D D, undef, undef, undef, undef, undef, undef], defers := [] }) ?assign ?body ?done ?stop)
      case seq =>
        intro l J Jx W hW _ _ hY h0
        refine rows1_in (9 - 1) (by omega) l (U + 4) U (U + 1 + 1) (U + 1) (U + 1 + 1 + 1) bI oI c2 bD oD d D ys.length R ids hR HIDS.out hil hD HL.out hd1 hd2 ⟨by omega, by omega⟩ ⟨by omega, by omega⟩ ⟨by omega, by omega⟩ (fun _ => ⟨by omega, by omega⟩) J Jx hY W ((hW.cell (p := ⟨U + 1 + 1, 0, none⟩) (by show U + 1 + 1 < _; omega)).trans k2) ((hW.cell (p := ⟨U + 1, 1, none⟩) (by show U + 1 < _; omega)).trans k1) ((hW.cell (p := ⟨U + 1 + 1 + 1, 0, none⟩) (by show U + 1 + 1 + 1 < _; omega)).trans k3) ?_ h0
        intro j hj
        obtain ⟨b5, o5, e5, l5, c5⟩ := HI4.out.cell j hj
        cases e5
        exact (hW.cell (p := ⟨bI, oI + j, none⟩) (by show bI < _; omega)).trans c5
      case own =>
        rintro pre X Y row ⟨⟨v, hv, hrow⟩, hbl⟩ hgr hr
        have hsz := hbl.size
        refine ⟨⟨v, hv.kept hgr (fun e => ?_), own_cells hrow hgr (fun r e => (hr r e).2)⟩, hbl.grown hgr (by omega) (fun j e => ?_)⟩
        · have := (hr U e.symm).1; omega
        · have := (hr j e).1; omega
      case init =>
        exact ⟨⟨_, HU4.out, by simpa [rowsY] using World.ownsRow_nil _ _ _ _⟩, Below.refl _ _⟩
      case assign =>
        intro l x W K hK
        have hK2 := Lib.hid hK
        clear hK
        gi_wp2
        exact hK2.out
      case body =>
        rintro l pre x W ⟨⟨v, hv, hrow⟩, hbl⟩ hlen
        have HV := Lib.hid hv
        have HRW := Lib.hid hrow
        have hszW := hbl.size
        have HBL := Lib.hid hbl
        obtain ⟨u0, u1, u2, u3⟩ := hv
        have hx := x.isLt
        have hxr : ∀ j, j < D → W.cell? ((⟨bD, oD + x.val * D, none⟩ : Addr).add j) = some (.int .i64 ((rowOf D ys (x.val : Int))[j]?.getD 0)) := by
          intro j hj
          have hxd : (x.val + 1) * D ≤ R * D := Nat.mul_le_mul_right D hx
          rw [Nat.add_mul, Nat.one_mul] at hxd
          obtain ⟨b5, o5, e5, l5, c5⟩ := HT4.out.da.cell (x.val * D + j) (by rw [HL.out]; omega)
          cases e5
          have hadd : (⟨bD, oD + x.val * D, none⟩ : Addr).add j = ⟨bD, oD + (x.val * D + j), none⟩ := by simp [Addr.add, Nat.add_assoc]
          rw [hadd, (hbl.cell (p := ⟨bD, oD + (x.val * D + j), none⟩) (by show bD < U; omega)), c5]
          unfold rowOf
          rw [take_drop_get _ _ _ _ hj, Int.toNat_natCast]
        have hrl : (rowOf D ys (x.val : Int)).length = D := rowOf_len HL.out (by omega) (by omega)
        have hbnd : pre.length * D + D ≤ 17592186044415 := by
          have h1 : (pre.length + 1) * D ≤ ids.length * D := Nat.mul_le_mul_right D hlen
          rw [Nat.add_mul, Nat.one_mul] at h1
          have := HND.out
          omega
        have HXR := Lib.hid hxr
        have HRL := Lib.hid hrl
        clear hrow hbl hxr hrl
        gi_wp2_with (gi_at_builtin; refine appendRowIn (U + 4) v (pre.length * D) (rowsY D ys (pre.map (fun k => (k.val : Int)))) (rowOf D ys (x.val : Int)) ⟨bD, oD + x.val * D, none⟩ D D _ _ rfl rfl rfl HRW.out rfl HRL.out HXR.out hbnd (by omega) ?_; intro v' w6 hown' hgrow; obtain ⟨ad6, cd6, rfl, _⟩ := own_shape hown'; have hap := box_appended HV.out (by omega) (by omega) HRW.out hown' hgrow HBL.out (by omega); have HAP := Lib.hid hap; obtain ⟨⟨m0, m1, m2, m3⟩, _⟩ := hap; clear u0 u1 u2 u3)
        obtain ⟨_, n1, n2, n3, n4, n5⟩ := HAP.out
        refine ⟨n3, n4, ⟨_, n1, ?_⟩, n5⟩
        have e1 : (pre ++ [x]).length * D = pre.length * D + D := by simp [Nat.add_mul]
        have e2 : rowsY D ys ((pre ++ [x]).map (fun k => (k.val : Int))) = rowsY D ys (pre.map (fun k => (k.val : Int))) ++ rowOf D ys (x.val : Int) := by rw [List.map_append, List.map_singleton, rowsY_snoc]
        rw [e1, e2]
        exact n2
      case stop => exact fun _ _ _ _ _ _ h _ => h.elim
      case done =>
        rintro Dd pre W hD2 hS ⟨⟨v, hv, hrow⟩, hbl⟩ hK
        have hszW := hbl.size
        have hR8 := HR4.out.below hbl (by omega)
        have hS8 := HS4.out
        obtain ⟨ad, cd, rfl, _⟩ := own_shape hrow
        have HV := Lib.hid hv
        have HRW := Lib.hid hrow
        have HBL := Lib.hid hbl
        have HR8 := Lib.hid hR8
        have HS9b := Lib.hid hS8
        have HK := Lib.hid hK
        have HS9 := Lib.hid hS
        obtain ⟨u0, u1, u2, u3⟩ := hv
        obtain ⟨q0, q1, q2, q3⟩ := hR8
        clear hrow hbl hK hS8
        skip
        go_wp2
        have hK1 := (KeepsOthers.setCell W ⟨w.heap.size + 1, 0, none⟩ (.slice (some ⟨gS, 0, none⟩) 2 2)).same Dd _ HK.out rfl
        have hK2 := (KeepsOthers.setCell (W.setCell ⟨w.heap.size + 1, 0, none⟩ (.slice (some ⟨gS, 0, none⟩) 2 2)) ⟨w.heap.size + 1, 1, none⟩ (.slice ad (pre.length * D) cd)).same Dd _ hK1 rfl
        have X8 : Box2 ((W.setCell ⟨w.heap.size + 1, 0, none⟩ (.slice (some ⟨gS, 0, none⟩) 2 2)).setCell ⟨w.heap.size + 1, 1, none⟩ (.slice ad (pre.length * D) cd)) (w.heap.size + 1) (.slice (some ⟨gS, 0, none⟩) 2 2) (.slice ad (pre.length * D) cd) := by constructor <;> go_simp
        have hbV : Below w.heap.size w ((W.setCell ⟨w.heap.size + 1, 0, none⟩ (.slice (some ⟨gS, 0, none⟩) 2 2)).setCell ⟨w.heap.size + 1, 1, none⟩ (.slice ad (pre.length * D) cd)) := ((HW4.out.trans (HBL.out.mono (by omega))).setCell (by simp) _).setCell (by simp) _
        have hgS1b : w.heap.size + 1 < gS := by omega
        have hSV := ((HSO4.out.below HBL.out (Nat.le_refl _)).set (q := w.heap.size + 1) (o := 0) (x := .slice (some ⟨gS, 0, none⟩) 2 2) (.inl (by omega))).set (q := w.heap.size + 1) (o := 1) (x := .slice ad (pre.length * D) cd) (.inl (by omega))
        have hIV : Ints .i64 ((W.setCell ⟨w.heap.size + 1, 0, none⟩ (.slice (some ⟨gS, 0, none⟩) 2 2)).setCell ⟨w.heap.size + 1, 1, none⟩ (.slice ad (pre.length * D) cd)) U (some ⟨gS, 0, none⟩) [(ids.length : Int), (D : Int)] := ints_setCell (ints_setCell (HS9b.out.below HBL.out (Nat.le_refl _)) (.inr ⟨gS, rfl, hgS1b⟩)) (.inr ⟨gS, rfl, hgS1b⟩)
        have hOV := ownsRow_setCell_below (a := ⟨w.heap.size + 1, 1, none⟩) (ownsRow_setCell_below (a := ⟨w.heap.size + 1, 0, none⟩) HRW.out (show w.heap.size + 1 < U + 4 by omega) (.slice (some ⟨gS, 0, none⟩) 2 2)) (show w.heap.size + 1 < U + 4 by omega) (.slice ad (pre.length * D) cd)
        have hsV : U + 4 ≤ ((W.setCell ⟨w.heap.size + 1, 0, none⟩ (.slice (some ⟨gS, 0, none⟩) 2 2)).setCell ⟨w.heap.size + 1, 1, none⟩ (.slice ad (pre.length * D) cd)).heap.size := by simp; omega
        generalize (W.setCell ⟨w.heap.size + 1, 0, none⟩ (.slice (some ⟨gS, 0, none⟩) 2 2)).setCell ⟨w.heap.size + 1, 1, none⟩ (.slice ad (pre.length * D) cd) = V at hK2 X8 hbV hIV hOV hsV hSV ⊢
        refine ⟨by simp, .inl ⟨_, _, rfl, run_takeDeferred hK2, ?_⟩⟩
        have hgD := grownBy_putObj' V Dd (.deferred none)
        have hrD : ∀ r, some Dd = some r → ∃ o : Obj, V.heap[r]? = some o ∧ o.isCells = false := fun r e => by cases e; exact ⟨_, hK2, rfl⟩
        have y0 := cell_kept X8.c0 hgD hrD
        have y1 := cell_kept X8.c1 hgD hrD
        have hbP : Below U V (V.putObj Dd (.deferred none)) := belowK_b (w := w4) (by omega) V Dd _ _ hD2 hK2 rfl rfl
        have hOP := ownsRow_putObj hOV (.deferred none) hK2 rfl
        have hsP := hgD.size
        have hSS := HS9.out
        generalize V.putObj Dd (.deferred none) = V2 at y0 y1 hbP hOP hsP ⊢
        have hpl : pre.length = ids.length := by rw [← hSS]; simp
        rw [hSS] at hOP
        have hrl := rowsY_len HL.out HIDS.out
        refine ⟨.tuple #[.agg #[.slice (some ⟨gS, 0, none⟩) 2 2, .slice ad (pre.length * D) cd], .int .i64 0], ?_, some ⟨gS, 0, none⟩, 2, ad, cd, U + 4, ?_, by omega, by omega, ?_, ⟨⟨by simp, by decide⟩, (hSV.below hbP (Nat.le_refl _)).mono (by omega) (by omega)⟩, ?_, hbV.trans (hbP.mono (by omega))⟩
        · rw [results_ct rfl]; go_simp
        · rw [hrl, hpl]; rfl
        · exact (hIV.below hbP (Nat.le_refl _)).mono (by omega)
        · rw [hrl, ← hpl]; exact hOP
  · as_aux_lemma =>
      have eX : embX xs ids = [] := by unfold embX; rw [if_neg hE]
      have eY : embY xs ys ids = [] := by unfold embY; rw [if_neg hE]
      rw [eX, eY]
      obtain ⟨Z, hZ⟩ : ∃ Z, embE xs ids = Z := ⟨_, rfl⟩
      rw [hZ] at hou hE ⊢
      have hzb : (Z != 0) = true := by simp; exact hE
      clear eX eY hZ lT
      go_enter Tryz.func11, Tryz.ntmps11
      go_wp2_with (first | (go_at_call 24; refine (hg _ (by (repeat' (first | exact Below.refl _ _ | refine below_drewN ?_ _ | refine Below.drew ?_ | refine Below.setCell ?_ (by first | omega | (simp <;> omega)) _ | refine Below.alloc ?_ (by first | omega | (simp <;> omega)) _)))).out.mono ?_; rintro e w1 ⟨rfl, hb⟩; have HB1 : Hid (Below w.heap.size w w1) := Lib.hid (Below.trans (by (repeat' (first | exact Below.refl _ _ | refine below_drewN ?_ _ | refine Below.drew ?_ | refine Below.setCell ?_ (by first | omega | (simp <;> omega)) _ | refine Below.alloc ?_ (by first | omega | (simp <;> omega)) _))) (hb.mono (by first | omega | (simp <;> omega)))); have hs1 := hb.size; (try simp at hs1); have p := Box2.below (b := w.heap.size) (v0 := .slice a xs.length c) (v1 := .slice b ys.length d) (by constructor <;> go_simp) hb (by first | omega | (simp <;> omega)); have Hp := Lib.hid p; obtain ⟨p0, p1, p2, p3⟩ := p; have q := Box2.below (b := w.heap.size + 1) (v0 := .slice none 0 0) (v1 := .slice none 0 0) (by constructor <;> go_simp) hb (by first | omega | (simp <;> omega)); have Hq := Lib.hid q; obtain ⟨q0, q1, q2, q3⟩ := q; clear hb) | (go_at_call 25; refine (hou _ HB1.out).out.mono ?_; rintro e w2 ⟨hb, hz⟩; rw [if_neg hE] at hz; subst hz; have hs2 := hb.size; have P2 := Hp.out.below hb (by omega); have Q2 := Hq.out.below hb (by omega); have HB2 : Hid (Below w.heap.size w w2) := Lib.hid (HB1.out.trans (hb.mono HB1.out.size)); clear hb p0 p1 p2 p3 q0 q1 q2 q3; obtain ⟨p0, p1, p2, p3⟩ := P2; obtain ⟨q0, q1, q2, q3⟩ := Q2))
      (try simp only [Exit.noGoto, Exit.inBlock, Exit.then])
      refine bodyPost_ret (v := .tuple #[.agg #[.slice none 0 0, .slice none 0 0], .int .i64 Z]) (by rw [results_ct rfl]; go_simp) rfl ?_
      exact retTen_err2 ((HB2.out.setCell (by simp) _).setCell (by simp) _)
end Go.Proofs.YtimjhjacinchjaaGreat
