/- The law ReduceTurned, walked. -/
import Derived.Test.YtiofodpfjlcebaaRdTn
import Derived.Test.YtiofodpfjlcebaaRdG
set_option linter.unusedVariables false
set_option linter.unusedSimpArgs false
namespace Go.Proofs.Ytiofodpfjlcebaa
open Go.RowKit Go.Rt

theorem frNe {lo : Nat} {w wr : World} {B : List (Nat × List Value)} {I : List (IntKind × Option Addr × List Int)} {O : List Row} {M : List (Nat × Obj)} (h : Fr lo w wr B I O M) (i j : Nat) (hij : i < j) {q r : Row} (hi : O[i]? = some q) (hj : O[j]? = some r) : ∀ g, q.v.ownBlock = some g → r.v.ownBlock ≠ some g := by
  obtain ⟨h1, e1⟩ := List.getElem?_eq_some_iff.1 hi
  obtain ⟨h2, e2⟩ := List.getElem?_eq_some_iff.1 hj
  have := List.pairwise_iff_getElem.1 h.apO i j h1 h2 hij
  rw [e1, e2] at this
  exact this
/-- A view, made in a drawn region: rows of one's own. -/
def IsVw (base : Nat) (sh st : List Int) (off : Int) (u : Value) (W : World) : Prop := ∃ a c b d, u = .agg #[.slice a sh.length c, .slice b st.length d, .int .i64 off] ∧ W.ownsRow base 3 1 (.slice a sh.length c) sh.length (sh.map (Value.int .i64)) ∧ W.ownsRow base 3 1 (.slice b st.length d) st.length (st.map (Value.int .i64))
theorem isVw_carries (base : Nat) (sh st : List Int) (off : Int) : Carries (IsVw base sh st off) := fun _ _ _ ⟨a, c, b, d, h, h1, h2⟩ hb => ⟨a, c, b, d, h, own_below h1 hb (Nat.le_refl _), own_below h2 hb (Nat.le_refl _)⟩
/-- A tensor, made in a drawn region. -/
def IsTn (base : Nat) (sh ys : List Int) (u : Value) (W : World) : Prop := ∃ a c b d, u = .agg #[.slice a sh.length c, .slice b ys.length d] ∧ W.ownsRow base 3 1 (.slice a sh.length c) sh.length (sh.map (Value.int .i64)) ∧ W.ownsRow base 2 1 (.slice b ys.length d) ys.length (ys.map (Value.int .i64)) ∧ (∀ g, (Value.slice a sh.length c).ownBlock = some g → (Value.slice b ys.length d).ownBlock ≠ some g)
theorem isTn_carries (base : Nat) (sh ys : List Int) : Carries (IsTn base sh ys) := fun _ _ _ ⟨a, c, b, d, h, h1, h2, h3⟩ hb => ⟨a, c, b, d, h, own_below h1 hb (Nat.le_refl _), own_below h2 hb (Nat.le_refl _), h3⟩
theorem list2_of {l : List Int} (h : l.length = 2) : ∃ u1 u2, l = [u1, u2] := by
  match l, h with
  | [u1, u2], _ => exact ⟨u1, u2, rfl⟩
/-- Two numbers in a row. -/
def IsPr (x y : Int) (u : Value) (W : World) : Prop := ∃ g cap, u = .slice (some ⟨g, 0, none⟩) 2 cap ∧ W.cell? ⟨g, 0, none⟩ = some (.int .i64 x) ∧ W.cell? ⟨g, 1, none⟩ = some (.int .i64 y)
theorem isPr_carries (x y : Int) : Carries (IsPr x y) := fun u w w' ⟨g, cap, h1, h2, h3⟩ hb => ⟨g, cap, h1, (hb.cell (p := ⟨g, 0, none⟩) (World.block_lt_of_cell? w _ h2)).trans h2, (hb.cell (p := ⟨g, 1, none⟩) (World.block_lt_of_cell? w _ h3)).trans h3⟩
theorem prNew (w : World) (x y : Int) (t : TypeId) : (w.alloc (.cells #[.int .i64 x, .int .i64 y] t)).cell? ⟨w.heap.size, 0, none⟩ = some (.int .i64 x) ∧ (w.alloc (.cells #[.int .i64 x, .int .i64 y] t)).cell? ⟨w.heap.size, 1, none⟩ = some (.int .i64 y) := by
  constructor <;> simp [go_sem]
theorem ints_pr {w : World} {g : Nat} {x y : Int} (h : w.cell? ⟨g, 0, none⟩ = some (.int .i64 x)) (h2 : w.cell? ⟨g, 1, none⟩ = some (.int .i64 y)) (hx : (Lit.int .i64 x).wf = true) (hy : (Lit.int .i64 y).wf = true) : Ints .i64 w w.heap.size (some ⟨g, 0, none⟩) [x, y] :=
  ⟨by simp, fun z hz => by simp only [List.mem_cons, List.not_mem_nil, or_false] at hz; rcases hz with rfl | rfl; exact hx; exact hy, fun i hi => by
    have hi2 : i < 2 := hi
    rcases (show i = 0 ∨ i = 1 by omega) with rfl | rfl
    · exact ⟨g, 0, rfl, World.block_lt_of_cell? w _ h, h⟩
    · exact ⟨g, 0, rfl, World.block_lt_of_cell? w _ h, h2⟩⟩
/-- A box and two rows, made in a drawn region. -/
theorem Fr.boxTwo {W w1 : World} (hb : Below W.heap.size W w1) {bb : Nat} {vs : List Value} {T e1 e2 : TypeId} {v1 v2 : Value} {n1 n2 : Nat} {xs1 xs2 : List Value} (h1 : W.heap.size ≤ bb) (o1 : w1.heap[bb]? = some (.cells vs.toArray T))
    (r1 : w1.ownsRow W.heap.size e1 1 v1 n1 xs1) (r2 : w1.ownsRow W.heap.size e2 1 v2 n2 xs2) (hap : ∀ g, v1.ownBlock = some g → v2.ownBlock ≠ some g) (he1 : e1 ≠ T) (he2 : e2 ≠ T) : Fr W.heap.size W w1 [(bb, vs)] [] [⟨e1, v1, n1, xs1⟩, ⟨e2, v2, n2, xs2⟩] [] := by
  have hd : ∀ (e : TypeId) (v : Value) (n : Nat) (xs : List Value), w1.ownsRow W.heap.size e 1 v n xs → e ≠ T → v.ownBlock ≠ some bb := fun e v n xs hr hT hv => by
    rcases hr.2 with ⟨rfl, _⟩ | ⟨g, cap, cur, rfl, _, hg, _⟩
    · cases hv
    · simp only [Value.ownBlock, Option.some.injEq] at hv
      subst hv
      rw [o1] at hg
      simp only [Option.some.injEq, Obj.cells.injEq] at hg
      exact hT hg.2.1.symm
  refine ⟨hb.size, hb, fun p hp => ?_, List.pairwise_singleton _ _, by simp, fun q hq => ?_, fun p hp q hq => ?_, ?_, by simp, .nil⟩
  · obtain rfl := List.mem_singleton.1 hp
    exact ⟨BoxL.of_obj o1, h1, (Array.getElem?_eq_some_iff.1 o1).1⟩
  · simp only [List.mem_cons, List.not_mem_nil, or_false] at hq
    rcases hq with rfl | rfl
    · exact r1
    · exact r2
  · obtain rfl := List.mem_singleton.1 hp
    simp only [List.mem_cons, List.not_mem_nil, or_false] at hq
    rcases hq with rfl | rfl
    · exact hd _ _ _ _ r1 he1
    · exact hd _ _ _ _ r2 he2
  · simp only [List.pairwise_cons, List.mem_cons, List.not_mem_nil, or_false, forall_eq, List.Pairwise.nil, and_true, false_implies, implies_true]
    exact hap

theorem sm_wf (m : Bool) (xs ys axes : List Int) : (∀ v ∈ smX m xs ys axes, (Lit.int .i64 v).wf = true) ∧ (∀ v ∈ smY m xs ys axes, (Lit.int .i64 v).wf = true) := by
  unfold smX smY
  by_cases hz : smZ m xs ys axes = 0
  · rw [hz, zL_0, zL_0]
    unfold smZ at hz
    by_cases hc : ckZ xs ys axes = 0
    · rw [if_pos hc] at hz
      have hg := goodB_dims (restL_good (axes := axes) (tenB_iff.1 (ckZ_ok hc).1).1)
      refine ⟨wf_dims (fun x hx => by have := hg x hx; omega), fun v hv => ?_⟩
      obtain ⟨k, hk, rfl⟩ := List.mem_map.1 hv
      unfold rdZ at hz
      split at hz
      · next hall =>
        have := isW_iff.1 (List.all_eq_true.1 hall k hk)
        exact wf_i64_iff.2 ⟨by omega, by omega⟩
      · exact absurd hz (by decide)
    · rw [if_neg hc] at hz
      exact absurd hz hc
  · rw [zL_ne _ hz, zL_ne _ hz]
    exact ⟨by simp, by simp⟩
theorem mxK_wf {g : Nat → Nat} {hr : Nat → Int} {ys : List Int} (hy : ∀ n : Nat, isW (ys[n]?.getD 0) = true) (hh : ∀ n, 0 ≤ hr n ∧ hr n < 4097) (k : Nat) : ∀ n, isW (mxK g hr ys k n).1 = true ∧ 0 ≤ (mxK g hr ys k n).2 ∧ (mxK g hr ys k n).2 < 4097
  | 0 => ⟨by show isW 0 = true; decide, Int.le_refl 0, by show (0 : Int) < 4097; decide⟩
  | n + 1 => by
    have ih := mxK_wf (g := g) hy hh k n
    rw [mxK]
    split
    · unfold mxS
      split
      · exact ⟨hy n, hh n⟩
      · exact ih
    · exact ih
theorem mx_wf (xs ys : List Int) (x : Int) : (∀ v ∈ mxX xs ys x, (Lit.int .i64 v).wf = true) ∧ (∀ v ∈ mxY xs ys x, (Lit.int .i64 v).wf = true) ∧ (∀ v ∈ mxP xs ys x, (Lit.int .i64 v).wf = true) := by
  unfold mxX mxY mxP mxZ
  by_cases hc : ckZ xs ys [x] = 0
  · rw [hc, zL_0, zL_0, zL_0]
    obtain ⟨ht, hax⟩ := ckZ_ok hc
    have lT := tenB_iff.1 ht
    have hg := goodB_dims (restL_good (axes := [x]) lT.1)
    have hb : 0 ≤ x ∧ x < xs.length := by
      simp only [axB, Bool.and_true, Bool.and_eq_true, decide_eq_true_eq] at hax
      omega
    have hal : x.toNat < xs.length := by omega
    have hy : ∀ n : Nat, isW (ys[n]?.getD 0) = true := fun n => by
      by_cases hn : n < ys.length
      · rw [List.getElem?_eq_getElem hn]; exact lT.2.2 _ (List.getElem_mem hn)
      · rw [List.getElem?_eq_none (by omega)]; decide
    have hh : ∀ n, 0 ≤ hereI xs x.toNat n ∧ hereI xs x.toNat n < 4097 := fun n => by
      have h1 := here_bound (n := n) lT.1 hal
      have h2 := (goodB_dims lT.1).at hal
      rw [List.getElem?_eq_getElem hal, Option.getD_some] at h1
      omega
    refine ⟨wf_dims (fun x hx => by have := hg x hx; omega), fun v hv => ?_, fun v hv => ?_⟩
    · obtain ⟨k, hk, rfl⟩ := List.mem_map.1 hv
      have := isW_iff.1 (mxK_wf (g := mxG xs x.toNat) hy hh k ys.length).1
      exact wf_i64_iff.2 ⟨by show _ ≤ (mxK _ _ _ _ _).1; omega, by show (mxK _ _ _ _ _).1 ≤ _; omega⟩
    · obtain ⟨k, hk, rfl⟩ := List.mem_map.1 hv
      have := (mxK_wf (g := mxG xs x.toNat) hy hh k ys.length).2
      exact wf_i64_iff.2 ⟨by show _ ≤ (mxK _ _ _ _ _).2; omega, by show (mxK _ _ _ _ _).2 ≤ _; omega⟩
  · rw [zL_ne _ hc, zL_ne _ hc, zL_ne _ hc]
    exact ⟨by simp, by simp, by simp⟩

set_option maxRecDepth 100000 in
set_option maxHeartbeats 8000000 in
theorem reduceTurned_any (q : Option Addr) (n c0 : Nat) (w : World) (h : AsksAt9 w w.heap.size q n) :
    Calls Try.prog 5 #[.slice q n c0] w fun e w' => e = .returned (.bool true) ∧ Below w.heap.size w w' := by
  have hm := h.len
  go_enter Try.func5, Try.ntmps5
  go_wp2_with fail
  go_loopw [3] (fun i wr => ∃ k : Nat, k ≤ n ∧ i = .int .i64 k ∧ Below w.heap.size w wr) (fun i _ => n - (intOf i).toNat)
  case atStart => exact ⟨0, Nat.zero_le _, rfl, Below.refl _ _⟩
  case round =>
    obtain ⟨k, hk, rfl, hbel⟩ := hrel
    obtain ⟨wo, rfl⟩ : ∃ wo : World, wo = wr := ⟨_, rfl⟩
    by_cases hend : k < n ∧ k < 10
    · obtain ⟨hlt, h20⟩ := hend
      obtain ⟨b0, o_, ⟨a, c, b, d, xs, ys⟩, ai, ci, axes, x, rfl, ht⟩ := h.at_ k hlt
      replace ht := ht.below hbel
      have hsz := hbel.size
      have HB := Lib.hid hbel
      have tA := ht.tA
      dsimp only at tA
      have hl1 := tA.sh.len
      have hl2 := tA.da.len
      have HI0 := Lib.hid (tA.sh.mono hsz)
      have HI1 := Lib.hid (tA.da.mono hsz)
      have HI2 := Lib.hid (ht.tI.mono hsz)
      have HC1 := Lib.hid (And.intro tA.c1 tA.c2)
      have HC2 := Lib.hid (And.intro tA.d1 tA.d2)
      have HC3 := Lib.hid (And.intro ht.i1 ht.i2)
      have HX := Lib.hid (And.intro ht.x0 ht.x1)
      have hhv := fun W => heavyT_any a b xs.length c ys.length d 60 W hl1 hl2
      have q0 := ht.c0
      have q1 := ht.c1
      have q2 := ht.c2
      have q3 := ht.c3
      dsimp only at q0 q1 q2 q3
      clear ht tA hbel h
      cases hv : (decide ((60 : Int) < ys.length) || decide (8 < xs.length)) with
      | true =>
        rw [hv] at hhv
        clear hv
        have F1 := Lib.hid ((Fr.start (w := wo) (I := [(.i64, a, xs), (.i64, b, ys), (.i64, ai, axes)]) (by intro z hz; simp at hz; rcases hz with rfl | rfl | rfl; exact HI0.out; exact HI1.out; exact HI2.out)).box1 (b := wo.heap.size) rfl [.slice a xs.length c, .slice b ys.length d, .slice ai axes.length ci, .int .i64 x] 28)
        simp only [List.nil_append] at F1
        go_upto_region 5 with fail
        obtain ⟨W1, hW1⟩ : ∃ W1, wo.alloc (.cells #[.slice a xs.length c, .slice b ys.length d, .slice ai axes.length ci, .int .i64 x] 28) = W1 := ⟨_, rfl⟩
        rw [hW1] at F1 ⊢
        clear hW1 q0 q1 q2 q3
        have c0_0 := F1.out.c 0 0 rfl rfl
        have c0_1 := F1.out.c 0 1 rfl rfl
        have c0_2 := F1.out.c 0 2 rfl rfl
        have c0_3 := F1.out.c 0 3 rfl rfl
        go_wp2_with (go_at_call 6; refine (hhv W1).mono ?_; rintro e w2 ⟨rfl, hb⟩; have F2 := Lib.hid (F1.out.next hb); clear hb)
        go_ret
        exact ⟨rfl, HB.out.trans (F2.out.bel.mono HB.out.size)⟩
      | false =>
        have hg12 : ys.length ≤ 60 ∧ xs.length ≤ 8 := by
          simp only [Bool.or_eq_false_iff, decide_eq_false_iff_not] at hv
          omega
        obtain ⟨g1, g2⟩ := hg12
        rw [hv] at hhv
        clear hv
        have htm := fun W (h : Ints .i64 W W.heap.size a xs) (h2 : Ints .i64 W W.heap.size b ys) => tenMay_any a b c d xs ys W h h2
        have HTM := Lib.hid htm
        clear htm
        have F1 := Lib.hid ((Fr.start (w := wo) (I := [(.i64, a, xs), (.i64, b, ys), (.i64, ai, axes)]) (by intro z hz; simp at hz; rcases hz with rfl | rfl | rfl; exact HI0.out; exact HI1.out; exact HI2.out)).box1 (b := wo.heap.size) rfl [.slice a xs.length c, .slice b ys.length d, .slice ai axes.length ci, .int .i64 x] 28)
        simp only [List.nil_append] at F1
        go_upto_region 5 with fail
        obtain ⟨W1, hW1⟩ : ∃ W1, wo.alloc (.cells #[.slice a xs.length c, .slice b ys.length d, .slice ai axes.length ci, .int .i64 x] 28) = W1 := ⟨_, rfl⟩
        rw [hW1] at F1 ⊢
        clear hW1 q0 q1 q2 q3
        have c0_0 := F1.out.c 0 0 rfl rfl
        have c0_1 := F1.out.c 0 1 rfl rfl
        have c0_2 := F1.out.c 0 2 rfl rfl
        have c0_3 := F1.out.c 0 3 rfl rfl
        go_upto_region 7 with (go_at_call 6; refine (hhv W1).mono ?_; rintro e w2 ⟨rfl, hb⟩; have F2 := Lib.hid (F1.out.next hb); clear hb F1 c0_0 c0_1 c0_2 c0_3; have d0_0 := F2.out.c 0 0 rfl rfl; have d0_1 := F2.out.c 0 1 rfl rfl; have d0_2 := F2.out.c 0 2 rfl rfl; have d0_3 := F2.out.c 0 3 rfl rfl)
        have htm := HTM.out
        clear HTM
        cases htb : tenB xs ys with
        | false =>
          rw [htb] at htm
          have HTM := Lib.hid htm
          clear htm htb
          go_wp2_with (go_at_call 7; refine (HTM.out _ (F2.out.lw 0 rfl) (F2.out.lw 1 rfl)).mono ?_; rintro e w3 ⟨rfl, hb⟩; have F3 := Lib.hid (F2.out.next hb); clear hb F2 d0_0 d0_1 d0_2 d0_3; have c0_0 := F3.out.c 0 0 rfl rfl; have c0_1 := F3.out.c 0 1 rfl rfl; have c0_2 := F3.out.c 0 2 rfl rfl; have c0_3 := F3.out.c 0 3 rfl rfl)
          go_roundw
          case rel => exact ⟨k + 1, by omega, by go_num, HB.out.trans (F3.out.bel.mono HB.out.size)⟩
          case measure => simp [intOf]; omega
        | true =>
          rw [htb] at htm
          have HTM := Lib.hid htm
          clear htm
          by_cases hr2 : xs.length = 2
          · skip
            obtain ⟨d0, d1, hxs⟩ := list2_of hr2
            have hdm := goodB_dims (tenB_iff.1 htb).1
            rw [hxs] at hdm
            have hd0 := hdm d0 (by simp)
            have hd1 := hdm d1 (by simp)
            obtain ⟨R, rfl⟩ : ∃ r : Nat, d0 = r := ⟨d0.toNat, by omega⟩
            obtain ⟨C, rfl⟩ : ∃ r : Nat, d1 = r := ⟨d1.toNat, by omega⟩
            skip
            have htb2 := htb
            rw [hxs] at htb2
            obtain ⟨tR, tC, tl, tt, tv, ts, tm⟩ := turn2_facts htb2
            have lT := tenB_iff.1 htb
            have lT2 := tenB_iff.1 tt
            skip
            have hps : permL xs [1, 0] = [(C : Int), (R : Int)] := by rw [hxs]; rfl
            have hst : permL (strI xs) [1, 0] = [1, (C : Int)] := by rw [hxs]; simp [permL, strI, prodI]
            have hsl : (strI xs).length = xs.length := strI_length xs
            have hof := fun W (h : Ints .i64 W W.heap.size a xs) => rof_any a c xs W h lT.1
            have htr := fun p q c9 d9 g c8 W h h2 h3 => rtrans_any p q (some ⟨g, 0, none⟩) c9 d9 c8 xs (strI xs) [1, 0] 0 W h h2 h3 (by omega) hsl (by rw [hr2]; decide)
            rw [hps, hst] at htr
            have hcp := fun p q c9 d9 W h h2 h3 => rcopy_any p q b c9 d9 d [(C : Int), (R : Int)] [1, (C : Int)] ys 0 W h h2 h3 tv
            have etw : wordsV [(C : Int), (R : Int)] [1, (C : Int)] 0 ys = turn2L R C ys := rfl
            rw [etw] at hcp
            have hs1 := fun g W h h2 h3 => rsum_all a b (some ⟨g, 0, none⟩) c d 1 xs ys [0] W h h2 h3
            have hs2 := fun p q c9 d9 g W h h2 h3 => rsum_all p q (some ⟨g, 0, none⟩) c9 d9 1 [(C : Int), (R : Int)] (turn2L R C ys) [1] W h h2 h3
            have hm1 := fun g W h h2 h3 => rmean_all a b (some ⟨g, 0, none⟩) c d 1 xs ys [0] W h h2 h3
            have hm2 := fun p q c9 d9 g W h h2 h3 => rmean_all p q (some ⟨g, 0, none⟩) c9 d9 1 [(C : Int), (R : Int)] (turn2L R C ys) [1] W h h2 h3
            have hx1 := fun W h h2 => rmax_all a b c d xs ys 0 W h h2 (by decide)
            have hx2 := fun p q c9 d9 W h h2 => rmax_all p q c9 d9 [(C : Int), (R : Int)] (turn2L R C ys) 1 W h h2 (by decide)
            rw [(ts false).1, (ts false).2.1, (ts false).2.2, ← hxs] at hs2
            rw [(ts true).1, (ts true).2.1, (ts true).2.2, ← hxs] at hm2
            rw [tm.1, tm.2.1, tm.2.2.1, tm.2.2.2.1, ← hxs] at hx2
            have tm5 := tm.2.2.2.2
            rw [← hxs] at tm5
            rw [tm5] at hx1
            have hw0 := (goodB_dims lT2.1)
            have HWT : Hid (∀ z ∈ [(C : Int), (R : Int)], (Lit.int .i64 z).wf = true) := Lib.hid (wf_dims (fun z hz => by have := hw0 z hz; omega))
            have HWX : Hid (∀ z ∈ xs, (Lit.int .i64 z).wf = true) := Lib.hid HI0.out.wf
            have HWY : Hid (∀ z ∈ turn2L R C ys, (Lit.int .i64 z).wf = true) := Lib.hid (fun z hz => by have := isW_iff.1 (lT2.2.2 z hz); exact wf_i64_iff.2 ⟨by omega, by omega⟩)
            have HWS : Hid (∀ z ∈ strI xs, (Lit.int .i64 z).wf = true) := Lib.hid (by rw [hxs]; intro z hz; simp only [strI, prodI, Int.mul_one, List.mem_cons, List.not_mem_nil, or_false] at hz; rcases hz with rfl | rfl <;> exact wf_i64_iff.2 ⟨by omega, by omega⟩)
            have HWC : Hid (∀ z ∈ [1, (C : Int)], (Lit.int .i64 z).wf = true) := Lib.hid (by intro z hz; simp only [List.mem_cons, List.not_mem_nil, or_false] at hz; rcases hz with rfl | rfl <;> exact wf_i64_iff.2 ⟨by omega, by omega⟩)
            obtain ⟨TS, hTS⟩ : ∃ l, [(C : Int), (R : Int)] = l := ⟨_, rfl⟩
            rw [hTS] at htr hcp hs2 hm2 hx2 HWT
            obtain ⟨TC, hTC⟩ : ∃ l, [1, (C : Int)] = l := ⟨_, rfl⟩
            rw [hTC] at htr hcp HWC
            obtain ⟨TW, hTW⟩ : ∃ l, turn2L R C ys = l := ⟨_, rfl⟩
            rw [hTW] at hcp hs2 hm2 hx2 HWY
            obtain ⟨SI, hSI⟩ : ∃ l, strI xs = l := ⟨_, rfl⟩
            rw [hSI] at hof htr HWS
            have hwf1 := sm_wf false xs ys [0]
            have hwf2 := sm_wf true xs ys [0]
            have hwf3 := mx_wf xs ys 0
            obtain ⟨X1, hX1⟩ : ∃ z, smX false xs ys [0] = z := ⟨_, rfl⟩
            rw [hX1] at hs1 hs2 hwf1
            obtain ⟨Y1, hY1⟩ : ∃ z, smY false xs ys [0] = z := ⟨_, rfl⟩
            rw [hY1] at hs1 hs2 hwf1
            obtain ⟨Z1, hZ1⟩ : ∃ z, smZ false xs ys [0] = z := ⟨_, rfl⟩
            rw [hZ1] at hs1 hs2
            obtain ⟨X2, hX2⟩ : ∃ z, smX true xs ys [0] = z := ⟨_, rfl⟩
            rw [hX2] at hm1 hm2 hwf2
            obtain ⟨Y2, hY2⟩ : ∃ z, smY true xs ys [0] = z := ⟨_, rfl⟩
            rw [hY2] at hm1 hm2 hwf2
            obtain ⟨Z2, hZ2⟩ : ∃ z, smZ true xs ys [0] = z := ⟨_, rfl⟩
            rw [hZ2] at hm1 hm2
            obtain ⟨X3, hX3⟩ : ∃ z, mxX xs ys 0 = z := ⟨_, rfl⟩
            rw [hX3] at hx1 hx2 hwf3
            obtain ⟨Y3, hY3⟩ : ∃ z, mxY xs ys 0 = z := ⟨_, rfl⟩
            rw [hY3] at hx1 hx2 hwf3
            obtain ⟨P3, hP3⟩ : ∃ z, mxP xs ys 0 = z := ⟨_, rfl⟩
            rw [hP3] at hx1 hx2 hwf3
            have WX1 := Lib.hid hwf1.1
            have WY1 := Lib.hid hwf1.2
            have WX2 := Lib.hid hwf2.1
            have WY2 := Lib.hid hwf2.2
            have WX3 := Lib.hid hwf3.1
            have WY3 := Lib.hid hwf3.2.1
            have WP3 := Lib.hid hwf3.2.2
            clear hwf1 hwf2 hwf3
            have HOF := Lib.hid hof
            have HTR := Lib.hid htr
            have HCP := Lib.hid hcp
            have HS1 := Lib.hid hs1
            have HS2 := Lib.hid hs2
            have HM1 := Lib.hid hm1
            have HM2 := Lib.hid hm2
            have HX1 := Lib.hid hx1
            have HX2 := Lib.hid hx2
            have hr2i : ((xs.length : Int) != 2) = false := by rw [hr2]; rfl
            have HR2 := Lib.hid hr2
            clear hr2 hdm hd0 hd1 htb2 tR tC tl tt tv ts tm tm5 lT lT2 hps hst hsl etw hw0 hof htr hcp hs1 hs2 hm1 hm2 hx1 hx2 hTS hTC hTW hSI hX1 hY1 hZ1 hX2 hY2 hZ2 hX3 hY3 hP3 hxs htb
            go_upto_region 8 with (go_at_call 7; refine (HTM.out _ (F2.out.lw 0 rfl) (F2.out.lw 1 rfl)).mono ?_; rintro e w3 ⟨rfl, hb⟩; have F3 := Lib.hid (F2.out.next hb); clear hb F2 d0_0 d0_1 d0_2 d0_3; have c0_0 := F3.out.c 0 0 rfl rfl; have c0_1 := F3.out.c 0 1 rfl rfl; have c0_2 := F3.out.c 0 2 rfl rfl; have c0_3 := F3.out.c 0 3 rfl rfl)
            clear c0_0 c0_1 c0_2 c0_3
            refine wp_region_parts2 (w := w3) 11 1 none [] [(fun u _ => u = .pointer (some ⟨wo.heap.size, 0, none⟩)), (fun u _ => u = .pointer (some ⟨wo.heap.size, 0, none⟩)), (fun u _ => u = .slice a xs.length c), ((IsVw w3.heap.size xs SI 0)), ((IsPr 1 0)), ((IsVw w3.heap.size TS TC 0)), (fun u _ => u = .pointer (some ⟨wo.heap.size, 0, none⟩)), (fun u _ => u = .pointer (some ⟨wo.heap.size, 1, none⟩)), (fun u _ => u = .slice b ys.length d), ((IsTn w3.heap.size TS TW)), ((IsObj w3.heap.size [.slice none 0 0, .slice none 0 0] 26))] [some 48, some 49, some 50, some 51, some 52, some 53, some 54, some 55, some 56, some 57, some 5, none] #[true, true, true, true, true, true, true, true, true, true, true, false] #[true, true, true, true, true, true, true, true, true, true, true, false] (by kernel_rfl) rfl (by kernel_rfl) (by kernel_rfl) rfl (by kernel_rfl) (by kernel_rfl) (.cons (carries_eq _) (.cons (carries_eq _) (.cons (carries_eq _) (.cons (isVw_carries _ _ _ _) (.cons (isPr_carries _ _) (.cons (isVw_carries _ _ _ _) (.cons (carries_eq _) (.cons (carries_eq _) (.cons (carries_eq _) (.cons (isTn_carries _ _ _) (.cons (isObj_carries _ _ _) .nil))))))))))) (fun vs b hvl hvb => ?_)
            obtain ⟨x0, x1, x2, x3, x4, x5, x6, x7, x8, x9, x10, x11, rfl⟩ : ∃ x0 x1 x2 x3 x4 x5 x6 x7 x8 x9 x10 x11, vs = [x0, x1, x2, x3, x4, x5, x6, x7, x8, x9, x10, x11] := lst12 hvl
            clear hvl
            simp only [putAll, Act.put, List.setIfInBounds_toArray, List.set_cons_zero, List.set_cons_succ] at hvb
            subst hvb
            refine ⟨(.snoc (.snoc (.snoc (.snoc (.snoc (.snoc (.snoc (.snoc (.snoc (.snoc (.snoc .zero (PartOb.intro (d := (some 48)) (r := fun u _ => u = .pointer (some ⟨wo.heap.size, 0, none⟩)) rfl rfl rfl rfl ?po8x0)) (PartOb.intro (d := (some 49)) (r := fun u _ => u = .pointer (some ⟨wo.heap.size, 0, none⟩)) rfl rfl rfl rfl ?po8x1)) (PartOb.intro (d := (some 50)) (r := fun u _ => u = .slice a xs.length c) rfl rfl rfl rfl ?po8x2)) (PartOb.intro (d := (some 51)) (r := (IsVw w3.heap.size xs SI 0)) rfl rfl rfl rfl ?po8x3)) (PartOb.intro (d := (some 52)) (r := (IsPr 1 0)) rfl rfl rfl rfl ?po8x4)) (PartOb.intro (d := (some 53)) (r := (IsVw w3.heap.size TS TC 0)) rfl rfl rfl rfl ?po8x5)) (PartOb.intro (d := (some 54)) (r := fun u _ => u = .pointer (some ⟨wo.heap.size, 0, none⟩)) rfl rfl rfl rfl ?po8x6)) (PartOb.intro (d := (some 55)) (r := fun u _ => u = .pointer (some ⟨wo.heap.size, 1, none⟩)) rfl rfl rfl rfl ?po8x7)) (PartOb.intro (d := (some 56)) (r := fun u _ => u = .slice b ys.length d) rfl rfl rfl rfl ?po8x8)) (PartOb.intro (d := (some 57)) (r := (IsTn w3.heap.size TS TW)) rfl rfl rfl rfl ?po8x9)) (PartOb.intro (d := (some 5)) (r := (IsObj w3.heap.size [.slice none 0 0, .slice none 0 0] 26)) rfl rfl rfl rfl ?po8x10)), ?pend8, ?pfl8⟩
            case po8x0 =>
              intro w1 hb1 hd KK hK
              clear hd
              simp only [Act.put, List.setIfInBounds_toArray, List.set_cons_zero, List.set_cons_succ] at hK
              go_simp
              first | exact hK.out _ _ (Below.refl _ _) rfl | (have hk := hK.out _ _ (Below.refl _ _) rfl; revert hk; go_simp)
            case po8x1 =>
              intro w1 hb1 hd KK hK
              have d0 : x0 = .pointer (some ⟨wo.heap.size, 0, none⟩) := hd 0 (by kernel_rfl)
              clear hd
              subst d0
              simp only [Act.put, List.setIfInBounds_toArray, List.set_cons_zero, List.set_cons_succ] at hK
              go_simp
              first | exact hK.out _ _ (Below.refl _ _) rfl | (have hk := hK.out _ _ (Below.refl _ _) rfl; revert hk; go_simp)
            case po8x2 =>
              intro w1 hb1 hd KK hK
              have d1 : x1 = .pointer (some ⟨wo.heap.size, 0, none⟩) := hd 1 (by kernel_rfl)
              clear hd
              subst d1
              have hF := F3.out.next hb1
              have k0 := hF.c 0 0 rfl rfl
              simp only [Act.put, List.setIfInBounds_toArray, List.set_cons_zero, List.set_cons_succ] at hK
              go_simp
              first | exact hK.out _ _ (Below.refl _ _) rfl | (have hk := hK.out _ _ (Below.refl _ _) rfl; revert hk; go_simp)
            case po8x3 =>
              intro w1 hb1 hd KK hK
              have d2 : x2 = .slice a xs.length c := hd 2 (by kernel_rfl)
              clear hd
              subst d2
              simp only [Act.put, List.setIfInBounds_toArray, List.set_cons_zero, List.set_cons_succ] at hK
              go_simp
              go_at_call 22
              refine (HOF.out w1 ((F3.out.next hb1).lw 0 rfl)).mono ?_
              rintro e w2 ⟨a9, c9, b9, d9, rfl, hf⟩
              (try go_wp2_with fail)
              first | exact hK.out _ _ hf.bel ⟨a9, c9, b9, d9, rfl, own_mono (hf.r 0 rfl) hb1.size, own_mono (hf.r 1 rfl) hb1.size⟩ | (have hk := hK.out _ _ hf.bel ⟨a9, c9, b9, d9, rfl, own_mono (hf.r 0 rfl) hb1.size, own_mono (hf.r 1 rfl) hb1.size⟩; revert hk; go_simp)
            case po8x4 =>
              intro w1 hb1 hd KK hK
              clear hd
              simp only [Act.put, List.setIfInBounds_toArray, List.set_cons_zero, List.set_cons_succ] at hK
              go_simp
              first | exact hK.out _ _ ((Below.refl _ _).alloc (Nat.le_refl _) _) ⟨_, _, rfl, prNew w1 1 0 _⟩ | (have hk := hK.out _ _ ((Below.refl _ _).alloc (Nat.le_refl _) _) ⟨_, _, rfl, prNew w1 1 0 _⟩; revert hk; go_simp)
            case po8x5 =>
              intro w1 hb1 hd KK hK
              have d3 : (IsVw w3.heap.size xs SI 0) x3 w1 := hd 3 (by kernel_rfl)
              have d4 : (IsPr 1 0) x4 w1 := hd 4 (by kernel_rfl)
              clear hd
              obtain ⟨a3, c3, b3, d3, rfl, hO3, hP3⟩ := d3
              obtain ⟨g4, c4, rfl, hO4, hP4⟩ := d4
              simp only [Act.put, List.setIfInBounds_toArray, List.set_cons_zero, List.set_cons_succ] at hK
              go_simp
              go_at_call 21
              refine (HTR.out a3 b3 c3 d3 g4 c4 w1 (ints_row hO3 rfl HWX.out) (ints_row hP3 rfl HWS.out) (ints_pr hO4 hP4 (by decide) (by decide))).mono ?_
              rintro e w2 ⟨a9, c9, b9, d9, rfl, hf⟩
              (try go_wp2_with fail)
              first | exact hK.out _ _ hf.bel ⟨a9, c9, b9, d9, rfl, own_mono (hf.r 0 rfl) hb1.size, own_mono (hf.r 1 rfl) hb1.size⟩ | (have hk := hK.out _ _ hf.bel ⟨a9, c9, b9, d9, rfl, own_mono (hf.r 0 rfl) hb1.size, own_mono (hf.r 1 rfl) hb1.size⟩; revert hk; go_simp)
            case po8x6 =>
              intro w1 hb1 hd KK hK
              clear hd
              simp only [Act.put, List.setIfInBounds_toArray, List.set_cons_zero, List.set_cons_succ] at hK
              go_simp
              first | exact hK.out _ _ (Below.refl _ _) rfl | (have hk := hK.out _ _ (Below.refl _ _) rfl; revert hk; go_simp)
            case po8x7 =>
              intro w1 hb1 hd KK hK
              have d6 : x6 = .pointer (some ⟨wo.heap.size, 0, none⟩) := hd 6 (by kernel_rfl)
              clear hd
              subst d6
              simp only [Act.put, List.setIfInBounds_toArray, List.set_cons_zero, List.set_cons_succ] at hK
              go_simp
              first | exact hK.out _ _ (Below.refl _ _) rfl | (have hk := hK.out _ _ (Below.refl _ _) rfl; revert hk; go_simp)
            case po8x8 =>
              intro w1 hb1 hd KK hK
              have d7 : x7 = .pointer (some ⟨wo.heap.size, 1, none⟩) := hd 7 (by kernel_rfl)
              clear hd
              subst d7
              have hF := F3.out.next hb1
              have k1 := hF.c 0 1 rfl rfl
              simp only [Act.put, List.setIfInBounds_toArray, List.set_cons_zero, List.set_cons_succ] at hK
              go_simp
              first | exact hK.out _ _ (Below.refl _ _) rfl | (have hk := hK.out _ _ (Below.refl _ _) rfl; revert hk; go_simp)
            case po8x9 =>
              intro w1 hb1 hd KK hK
              have d5 : (IsVw w3.heap.size TS TC 0) x5 w1 := hd 5 (by kernel_rfl)
              have d8 : x8 = .slice b ys.length d := hd 8 (by kernel_rfl)
              clear hd
              obtain ⟨a5, c5, b5, d5, rfl, hO5, hP5⟩ := d5
              subst d8
              simp only [Act.put, List.setIfInBounds_toArray, List.set_cons_zero, List.set_cons_succ] at hK
              go_simp
              go_at_call 20
              refine (HCP.out a5 b5 c5 d5 w1 (ints_row hO5 rfl HWT.out) (ints_row hP5 rfl HWC.out) ((F3.out.next hb1).lw 1 rfl)).mono ?_
              rintro e w2 ⟨a9, c9, b9, d9, rfl, hf⟩
              (try go_wp2_with fail)
              first | exact hK.out _ _ hf.bel ⟨a9, c9, b9, d9, rfl, own_mono (hf.r 0 rfl) hb1.size, own_mono (hf.r 1 rfl) hb1.size, frNe hf 0 1 (by decide) rfl rfl⟩ | (have hk := hK.out _ _ hf.bel ⟨a9, c9, b9, d9, rfl, own_mono (hf.r 0 rfl) hb1.size, own_mono (hf.r 1 rfl) hb1.size, frNe hf 0 1 (by decide) rfl rfl⟩; revert hk; go_simp)
            case po8x10 =>
              intro w1 hb1 hd KK hK
              clear hd
              simp only [Act.put, List.setIfInBounds_toArray, List.set_cons_zero, List.set_cons_succ] at hK
              go_simp
              first | exact hK.out _ _ ((Below.refl _ _).alloc (Nat.le_refl _) _) (isObj_new _ _ _ w1 hb1.size) | (have hk := hK.out _ _ ((Below.refl _ _).alloc (Nat.le_refl _) _) (isObj_new _ _ _ w1 hb1.size); revert hk; go_simp)
            case pfl8 => (intro f hf; cases hf)
            case pend8 =>
            intro w1 hb1 hR hD
            have d0 : x0 = .pointer (some ⟨wo.heap.size, 0, none⟩) := hR 0 (by decide)
            have d1 : x1 = .pointer (some ⟨wo.heap.size, 0, none⟩) := hR 1 (by decide)
            have d2 : x2 = .slice a xs.length c := hR 2 (by decide)
            have d3 : (IsVw w3.heap.size xs SI 0) x3 w1 := hR 3 (by decide)
            have d4 : (IsPr 1 0) x4 w1 := hR 4 (by decide)
            have d5 : (IsVw w3.heap.size TS TC 0) x5 w1 := hR 5 (by decide)
            have d6 : x6 = .pointer (some ⟨wo.heap.size, 0, none⟩) := hR 6 (by decide)
            have d7 : x7 = .pointer (some ⟨wo.heap.size, 1, none⟩) := hR 7 (by decide)
            have d8 : x8 = .slice b ys.length d := hR 8 (by decide)
            have d9 : (IsTn w3.heap.size TS TW) x9 w1 := hR 9 (by decide)
            have d10 : (IsObj w3.heap.size [.slice none 0 0, .slice none 0 0] 26) x10 w1 := hR 10 (by decide)
            clear hR hD
            subst d0
            subst d1
            subst d2
            obtain ⟨a3, c3, b3, d3, rfl, hO3, hP3⟩ := d3
            obtain ⟨g4, c4, rfl, hO4, hP4⟩ := d4
            obtain ⟨a5, c5, b5, d5, rfl, hO5, hP5⟩ := d5
            subst d6
            subst d7
            subst d8
            obtain ⟨a9, c9, b9, d9, rfl, hO9, hP9, hQ9⟩ := d9
            obtain ⟨b10, rfl, hl10, ho10⟩ := d10
            refine wpAny_ready (rs := [11]) (by kernel_rfl) (by simp) (AllReady.cons rfl (fun KK hK => ?_) AllReady.nil)
            have G3 := F3.out.join2 (Fr.boxTwo hb1 hl10 ho10 hO9 hP9 hQ9 (by decide) (by decide))
            simp only [List.cons_append, List.nil_append, List.append_nil] at G3
            have k0 := G3.c 1 0 rfl rfl
            have k1 := G3.c 1 1 rfl rfl
            have kf0 := G3.f 1 0 rfl rfl
            have kf1 := G3.f 1 1 rfl rfl
            go_simp
            refine hK _ _ ?_
            clear hK KK
            try simp only [putAll, Act.put, List.setIfInBounds_toArray, List.set_cons_zero, List.set_cons_succ]
            refine wpAny_done (by kernel_rfl) ?_ _
            have F4 := Lib.hid (G3.set 1 rfl (by simp) [.slice a9 TS.length c9, .slice b9 TW.length d9] rfl)
            simp only [setL, Nat.reduceAdd, List.set_cons_zero, List.set_cons_succ] at F4
            obtain ⟨W4, hW4⟩ : ∃ x, (w1.setCell ⟨b10, 0, none⟩ (.slice a9 TS.length c9)).setCell ⟨b10, 1, none⟩ (.slice b9 TW.length d9) = x := ⟨_, rfl⟩
            rw [hW4] at F4 ⊢
            clear hW4 G3 k0 k1 kf0 kf1 hb1 hl10 ho10 hO9 hP9 hQ9 hO3 hP3 hO4 hP4 hO5 hP5 F3
            have c0_0 := F4.out.c 0 0 rfl rfl
            have c0_1 := F4.out.c 0 1 rfl rfl
            have c0_2 := F4.out.c 0 2 rfl rfl
            have c0_3 := F4.out.c 0 3 rfl rfl
            have F4b := Lib.hid (F4.out.box1 (b := W4.heap.size) rfl [.int .i64 0] 3)
            simp only [List.nil_append, List.cons_append] at F4b
            go_upto_region 10 with (first | (go_at_call 10; refine (HS1.out _ _ (F4b.out.lw 0 rfl) (F4b.out.lw 1 rfl) (ints_of_box (xs := [0]) (F4b.out.box _ (List.mem_of_getElem? (i := 2) rfl)).1 (F4b.out.bl 2 rfl).2 (by decide) (by decide))).mono ?_; rintro e w5 ⟨a4x, c4x, b4x, d4x, rfl, hf⟩; have F5 := Lib.hid (F4b.out.join hf); simp only [List.cons_append, List.nil_append] at F5; clear hf F4 F4b c0_0 c0_1 c0_2 c0_3) | fail)
            replace F5 := Lib.hid (F5.out.less (.cons_cons _ (.cons_cons _ (.cons _ .slnil))) (.refl _) (.refl _) (.refl _))
            obtain ⟨Y6, hY6⟩ : ∃ x, w5.heap.size = x := ⟨_, rfl⟩
            rw [hY6]
            have G5 := Lib.hid (F5.out.box1 (b := Y6) hY6 [.slice a4x X1.length c4x, .slice b4x Y1.length d4x] 26)
            simp only [List.nil_append, List.cons_append] at G5
            obtain ⟨W5x, hW5x⟩ : ∃ x, (w5.alloc (.cells #[.slice a4x X1.length c4x, .slice b4x Y1.length d4x] 26)) = x := ⟨_, rfl⟩
            rw [hW5x] at G5 ⊢
            clear hW5x hY6 F5
            have c1_0 := G5.out.c 1 0 rfl rfl
            have c1_1 := G5.out.c 1 1 rfl rfl
            have G5b := Lib.hid (G5.out.box1 (b := W5x.heap.size) rfl [.int .i64 1] 3)
            simp only [List.nil_append, List.cons_append] at G5b
            go_upto_region 11 with (first | (go_at_call 10; refine (HS2.out a9 b9 c9 d9 _ _ (G5b.out.li 0 (k := .i64) (xs := TS) rfl HWT.out) (G5b.out.li 1 (k := .i64) (xs := TW) rfl HWY.out) (ints_of_box (xs := [1]) (G5b.out.box _ (List.mem_of_getElem? (i := 3) rfl)).1 (G5b.out.bl 3 rfl).2 (by decide) (by decide))).mono ?_; rintro e w6 ⟨a5x, c5x, b5x, d5x, rfl, hf⟩; have F6 := Lib.hid (G5b.out.join hf); simp only [List.cons_append, List.nil_append] at F6; clear hf G5 G5b c1_0 c1_1) | fail)
            replace F6 := Lib.hid (F6.out.less (.cons_cons _ (.cons_cons _ (.cons_cons _ (.cons _ .slnil)))) (.refl _) (.refl _) (.refl _))
            obtain ⟨Y8, hY8⟩ : ∃ x, w6.heap.size = x := ⟨_, rfl⟩
            rw [hY8]
            have G6 := Lib.hid (F6.out.box1 (b := Y8) hY8 [.slice a5x X1.length c5x, .slice b5x Y1.length d5x] 26)
            simp only [List.nil_append, List.cons_append] at G6
            obtain ⟨W6x, hW6x⟩ : ∃ x, (w6.alloc (.cells #[.slice a5x X1.length c5x, .slice b5x Y1.length d5x] 26)) = x := ⟨_, rfl⟩
            rw [hW6x] at G6 ⊢
            clear hW6x hY8 F6
            have c0_0 := G6.out.c 0 0 rfl rfl
            have c0_1 := G6.out.c 0 1 rfl rfl
            have c0_2 := G6.out.c 0 2 rfl rfl
            have c0_3 := G6.out.c 0 3 rfl rfl
            have G6b := Lib.hid (G6.out.box1 (b := W6x.heap.size) rfl [.int .i64 0] 3)
            simp only [List.nil_append, List.cons_append] at G6b
            go_upto_region 12 with (first | (go_at_call 8; refine (HM1.out _ _ (G6b.out.lw 0 rfl) (G6b.out.lw 1 rfl) (ints_of_box (xs := [0]) (G6b.out.box _ (List.mem_of_getElem? (i := 4) rfl)).1 (G6b.out.bl 4 rfl).2 (by decide) (by decide))).mono ?_; rintro e w7 ⟨a6x, c6x, b6x, d6x, rfl, hf⟩; have F7 := Lib.hid (G6b.out.join hf); simp only [List.cons_append, List.nil_append] at F7; clear hf G6 G6b c0_0 c0_1 c0_2 c0_3) | fail)
            replace F7 := Lib.hid (F7.out.less (.cons_cons _ (.cons_cons _ (.cons_cons _ (.cons_cons _ (.cons _ .slnil))))) (.refl _) (.refl _) (.refl _))
            obtain ⟨Y10, hY10⟩ : ∃ x, w7.heap.size = x := ⟨_, rfl⟩
            rw [hY10]
            have G7 := Lib.hid (F7.out.box1 (b := Y10) hY10 [.slice a6x X2.length c6x, .slice b6x Y2.length d6x] 26)
            simp only [List.nil_append, List.cons_append] at G7
            obtain ⟨W7x, hW7x⟩ : ∃ x, (w7.alloc (.cells #[.slice a6x X2.length c6x, .slice b6x Y2.length d6x] 26)) = x := ⟨_, rfl⟩
            rw [hW7x] at G7 ⊢
            clear hW7x hY10 F7
            have c1_0 := G7.out.c 1 0 rfl rfl
            have c1_1 := G7.out.c 1 1 rfl rfl
            have G7b := Lib.hid (G7.out.box1 (b := W7x.heap.size) rfl [.int .i64 1] 3)
            simp only [List.nil_append, List.cons_append] at G7b
            go_upto_region 13 with (first | (go_at_call 8; refine (HM2.out a9 b9 c9 d9 _ _ (G7b.out.li 0 (k := .i64) (xs := TS) rfl HWT.out) (G7b.out.li 1 (k := .i64) (xs := TW) rfl HWY.out) (ints_of_box (xs := [1]) (G7b.out.box _ (List.mem_of_getElem? (i := 5) rfl)).1 (G7b.out.bl 5 rfl).2 (by decide) (by decide))).mono ?_; rintro e w8 ⟨a7x, c7x, b7x, d7x, rfl, hf⟩; have F8 := Lib.hid (G7b.out.join hf); simp only [List.cons_append, List.nil_append] at F8; clear hf G7 G7b c1_0 c1_1) | fail)
            replace F8 := Lib.hid (F8.out.less (.cons_cons _ (.cons_cons _ (.cons_cons _ (.cons_cons _ (.cons_cons _ (.cons _ .slnil)))))) (.refl _) (.refl _) (.refl _))
            obtain ⟨Y12, hY12⟩ : ∃ x, w8.heap.size = x := ⟨_, rfl⟩
            rw [hY12]
            have G8 := Lib.hid (F8.out.box1 (b := Y12) hY12 [.slice a7x X2.length c7x, .slice b7x Y2.length d7x] 26)
            simp only [List.nil_append, List.cons_append] at G8
            obtain ⟨W8x, hW8x⟩ : ∃ x, (w8.alloc (.cells #[.slice a7x X2.length c7x, .slice b7x Y2.length d7x] 26)) = x := ⟨_, rfl⟩
            rw [hW8x] at G8 ⊢
            clear hW8x hY12 F8
            have c0_0 := G8.out.c 0 0 rfl rfl
            have c0_1 := G8.out.c 0 1 rfl rfl
            have c0_2 := G8.out.c 0 2 rfl rfl
            have c0_3 := G8.out.c 0 3 rfl rfl
            go_upto_region 14 with (first | (go_at_call 14; refine (HX1.out _ (G8.out.lw 0 rfl) (G8.out.lw 1 rfl)).mono ?_; rintro e w9 ⟨a8x, c8x, b8x, d8x, p8x, q8x, rfl, hf⟩; have F9 := Lib.hid (G8.out.join hf); simp only [List.cons_append, List.nil_append] at F9; clear hf G8  c0_0 c0_1 c0_2 c0_3) | fail)
            obtain ⟨Y14, hY14⟩ : ∃ x, w9.heap.size = x := ⟨_, rfl⟩
            rw [hY14]
            have G9 := Lib.hid (F9.out.box1 (b := Y14) hY14 [.slice a8x X3.length c8x, .slice b8x Y3.length d8x] 26)
            simp only [List.nil_append, List.cons_append] at G9
            obtain ⟨W9x, hW9x⟩ : ∃ x, (w9.alloc (.cells #[.slice a8x X3.length c8x, .slice b8x Y3.length d8x] 26)) = x := ⟨_, rfl⟩
            rw [hW9x] at G9 ⊢
            clear hW9x hY14 F9
            have c1_0 := G9.out.c 1 0 rfl rfl
            have c1_1 := G9.out.c 1 1 rfl rfl
            go_upto_region 15 with (first | (go_at_call 14; refine (HX2.out a9 b9 c9 d9 _ (G9.out.li 0 (k := .i64) (xs := TS) rfl HWT.out) (G9.out.li 1 (k := .i64) (xs := TW) rfl HWY.out)).mono ?_; rintro e w10 ⟨a9x, c9x, b9x, d9x, p9x, q9x, rfl, hf⟩; have F10 := Lib.hid (G9.out.join hf); simp only [List.cons_append, List.nil_append] at F10; clear hf G9  c1_0 c1_1) | fail)
            obtain ⟨Y17, hY17⟩ : ∃ x, w10.heap.size = x := ⟨_, rfl⟩
            rw [hY17]
            have G10 := Lib.hid (F10.out.box1 (b := Y17) hY17 [.slice a9x X3.length c9x, .slice b9x Y3.length d9x] 26)
            simp only [List.nil_append, List.cons_append] at G10
            obtain ⟨W10x, hW10x⟩ : ∃ x, (w10.alloc (.cells #[.slice a9x X3.length c9x, .slice b9x Y3.length d9x] 26)) = x := ⟨_, rfl⟩
            rw [hW10x] at G10 ⊢
            clear hW10x hY17 F10
            have c2_0 := G10.out.c 2 0 rfl rfl
            have c2_1 := G10.out.c 2 1 rfl rfl
            have c3_0 := G10.out.c 3 0 rfl rfl
            have c3_1 := G10.out.c 3 1 rfl rfl
            have c4_0 := G10.out.c 4 0 rfl rfl
            have c4_1 := G10.out.c 4 1 rfl rfl
            have c5_0 := G10.out.c 5 0 rfl rfl
            have c5_1 := G10.out.c 5 1 rfl rfl
            have c6_0 := G10.out.c 6 0 rfl rfl
            have c6_1 := G10.out.c 6 1 rfl rfl
            have c7_0 := G10.out.c 7 0 rfl rfl
            have c7_1 := G10.out.c 7 1 rfl rfl
            have hz1 : (Z1 != Z1) = false := by simp
            have hz2 : (Z2 != Z2) = false := by simp
            go_wp2_with (first | (go_at_call 9; refine (num9_any _ _).mono ?_; rintro e w' ⟨rfl, rfl⟩) | (go_at_call_of 19 (Value.agg #[.slice a4x X1.length c4x, .slice b4x Y1.length d4x]); refine ((eqTensor_any a4x b4x a5x b5x c4x d4x c5x d5x X1 Y1 X1 Y1 _ (G10.out.li 2 (k := .i64) (xs := X1) rfl WX1.out) (G10.out.li 3 (k := .i64) (xs := Y1) rfl WY1.out) (G10.out.li 4 (k := .i64) (xs := X1) rfl WX1.out) (G10.out.li 5 (k := .i64) (xs := Y1) rfl WY1.out))).mono ?_; simp only [decide_true, Bool.and_true]; rintro e H1w ⟨rfl, hb⟩; have H1 := Lib.hid (G10.out.next hb); clear hb G10 c2_0 c2_1 c3_0 c3_1 c4_0 c4_1 c5_0 c5_1 c6_0 c6_1 c7_0 c7_1; have c2_0 := H1.out.c 2 0 rfl rfl; have c2_1 := H1.out.c 2 1 rfl rfl; have c3_0 := H1.out.c 3 0 rfl rfl; have c3_1 := H1.out.c 3 1 rfl rfl; have c4_0 := H1.out.c 4 0 rfl rfl; have c4_1 := H1.out.c 4 1 rfl rfl; have c5_0 := H1.out.c 5 0 rfl rfl; have c5_1 := H1.out.c 5 1 rfl rfl; have c6_0 := H1.out.c 6 0 rfl rfl; have c6_1 := H1.out.c 6 1 rfl rfl; have c7_0 := H1.out.c 7 0 rfl rfl; have c7_1 := H1.out.c 7 1 rfl rfl) | (go_at_call_of 19 (Value.agg #[.slice a6x X2.length c6x, .slice b6x Y2.length d6x]); refine ((eqTensor_any a6x b6x a7x b7x c6x d6x c7x d7x X2 Y2 X2 Y2 _ (H1.out.li 6 (k := .i64) (xs := X2) rfl WX2.out) (H1.out.li 7 (k := .i64) (xs := Y2) rfl WY2.out) (H1.out.li 8 (k := .i64) (xs := X2) rfl WX2.out) (H1.out.li 9 (k := .i64) (xs := Y2) rfl WY2.out))).mono ?_; simp only [decide_true, Bool.and_true]; rintro e H2w ⟨rfl, hb⟩; have H2 := Lib.hid (H1.out.next hb); clear hb H1 c2_0 c2_1 c3_0 c3_1 c4_0 c4_1 c5_0 c5_1 c6_0 c6_1 c7_0 c7_1; have c2_0 := H2.out.c 2 0 rfl rfl; have c2_1 := H2.out.c 2 1 rfl rfl; have c3_0 := H2.out.c 3 0 rfl rfl; have c3_1 := H2.out.c 3 1 rfl rfl; have c4_0 := H2.out.c 4 0 rfl rfl; have c4_1 := H2.out.c 4 1 rfl rfl; have c5_0 := H2.out.c 5 0 rfl rfl; have c5_1 := H2.out.c 5 1 rfl rfl; have c6_0 := H2.out.c 6 0 rfl rfl; have c6_1 := H2.out.c 6 1 rfl rfl; have c7_0 := H2.out.c 7 0 rfl rfl; have c7_1 := H2.out.c 7 1 rfl rfl) | (go_at_call_of 19 (Value.agg #[.slice a8x X3.length c8x, .slice b8x Y3.length d8x]); refine ((eqTensor_any a8x b8x a9x b9x c8x d8x c9x d9x X3 Y3 X3 Y3 _ (H2.out.li 10 (k := .i64) (xs := X3) rfl WX3.out) (H2.out.li 11 (k := .i64) (xs := Y3) rfl WY3.out) (H2.out.li 13 (k := .i64) (xs := X3) rfl WX3.out) (H2.out.li 14 (k := .i64) (xs := Y3) rfl WY3.out))).mono ?_; simp only [decide_true, Bool.and_true]; rintro e H3w ⟨rfl, hb⟩; have H3 := Lib.hid (H2.out.next hb); clear hb H2 c2_0 c2_1 c3_0 c3_1 c4_0 c4_1 c5_0 c5_1 c6_0 c6_1 c7_0 c7_1; have c2_0 := H3.out.c 2 0 rfl rfl; have c2_1 := H3.out.c 2 1 rfl rfl; have c3_0 := H3.out.c 3 0 rfl rfl; have c3_1 := H3.out.c 3 1 rfl rfl; have c4_0 := H3.out.c 4 0 rfl rfl; have c4_1 := H3.out.c 4 1 rfl rfl; have c5_0 := H3.out.c 5 0 rfl rfl; have c5_1 := H3.out.c 5 1 rfl rfl; have c6_0 := H3.out.c 6 0 rfl rfl; have c6_1 := H3.out.c 6 1 rfl rfl; have c7_0 := H3.out.c 7 0 rfl rfl; have c7_1 := H3.out.c 7 1 rfl rfl) | (go_at_call 23; refine (eqNumbers_any p8x p9x q8x q9x _ P3 P3 _ (H3.out.li 12 (k := .i64) (xs := P3) rfl WP3.out) (H3.out.li 15 (k := .i64) (xs := P3) rfl WP3.out)).mono ?_; simp only [decide_true]; rintro e w' ⟨rfl, q99, rfl⟩; have H4 := Lib.hid (H3.out.drewN q99); clear H3 c2_0 c2_1 c3_0 c3_1 c4_0 c4_1 c5_0 c5_1 c6_0 c6_1 c7_0 c7_1) | fail)
            go_roundw
            case rel => exact ⟨k + 1, by omega, by go_num, HB.out.trans (H4.out.bel.mono HB.out.size)⟩
            case measure => simp [intOf]; omega
          · skip
            have hr2i : ((xs.length : Int) != 2) = true := by simp; omega
            have HTB := Lib.hid htb
            clear htb hr2
            go_wp2_with (go_at_call 7; refine (HTM.out _ (F2.out.lw 0 rfl) (F2.out.lw 1 rfl)).mono ?_; rintro e w3 ⟨rfl, hb⟩; have F3 := Lib.hid (F2.out.next hb); clear hb F2 d0_0 d0_1 d0_2 d0_3; have c0_0 := F3.out.c 0 0 rfl rfl; have c0_1 := F3.out.c 0 1 rfl rfl; have c0_2 := F3.out.c 0 2 rfl rfl; have c0_3 := F3.out.c 0 3 rfl rfl)
            go_roundw
            case rel => exact ⟨k + 1, by omega, by go_num, HB.out.trans (F3.out.bel.mono HB.out.size)⟩
            case measure => simp [intOf]; omega
    · have HB := Lib.hid hbel
      clear hbel h
      have WK := fun W => Lib.hid (wakes9_any W)
      by_cases hlt : k < n
      · have hk15 : ¬ (k : Int) < 10 := by omega
        have hkn : (k : Int) < n := by omega
        go_wp2_with (go_at_call 12; refine ((WK _).out).mono ?_; rintro e w1 ⟨rfl, hb⟩; have HW1 := Lib.hid hb; clear hb)
        go_ret
        exact ⟨rfl, HB.out.trans (HW1.out.mono HB.out.size)⟩
      · obtain rfl : k = n := by omega
        go_wp2_with (go_at_call 12; refine ((WK _).out).mono ?_; rintro e w1 ⟨rfl, hb⟩; have HW1 := Lib.hid hb; clear hb)
        go_ret
        exact ⟨rfl, HB.out.trans (HW1.out.mono HB.out.size)⟩
end Go.Proofs.Ytiofodpfjlcebaa
