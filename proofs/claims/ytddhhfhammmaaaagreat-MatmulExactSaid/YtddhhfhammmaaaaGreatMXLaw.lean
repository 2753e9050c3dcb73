/- The law MatmulExact, walked. -/
import Derived.Test.YtddhhfhammmaaaaGreatMXOps
import Derived.Test.YtddhhfhammmaaaaGreatMArg
set_option linter.unusedVariables false
set_option linter.unusedSimpArgs false
namespace Go.Proofs.YtddhhfhammmaaaaGreat
open Go.RowKit Go.Rt
theorem frNe {lo : Nat} {w wr : World} {B : List (Nat × List Value)} {I : List (IntKind × Option Addr × List Int)} {O : List Row} {M : List (Nat × Obj)} (h : Fr lo w wr B I O M) (i j : Nat) (hij : i < j) {q r : Row} (hi : O[i]? = some q) (hj : O[j]? = some r) : ∀ g, q.v.ownBlock = some g → r.v.ownBlock ≠ some g := by
  obtain ⟨h1, e1⟩ := List.getElem?_eq_some_iff.1 hi
  obtain ⟨h2, e2⟩ := List.getElem?_eq_some_iff.1 hj
  have := List.pairwise_iff_getElem.1 h.apO i j h1 h2 hij
  rw [e1, e2] at this
  exact this
theorem heavy2_no {n m i k : Nat} (h : heavy2 n m i k = false) : m ≤ 40 ∧ n ≤ 8 ∧ k ≤ 40 ∧ i ≤ 8 := by
  unfold heavy2 at h
  simp only [Bool.or_eq_false_iff, decide_eq_false_iff_not] at h
  omega
theorem good_wf {xs : List Int} (h : goodB xs = true) : (∀ v ∈ xs, (Lit.int .i64 v).wf = true) ∧ xs.length ≤ 100000 := by
  refine ⟨fun v hv => ?_, by have := (goodB_iff.1 h).1; omega⟩
  have := goodB_dims h v hv
  exact wf_i64_iff.2 ⟨by omega, by omega⟩
theorem isw_wf {v : Int} (h : isW v = true) : (Lit.int .i64 v).wf = true := by
  have := isW_iff.1 h
  exact wf_i64_iff.2 ⟨by omega, by omega⟩
theorem mm_ok {xsA ysA xsB ysB : List Int} {f : Int} : (∀ v ∈ mmX xsA ysA xsB ysB f, (Lit.int .i64 v).wf = true) ∧ (mmX xsA ysA xsB ysB f).length ≤ 100000 ∧ (∀ v ∈ mmY xsA ysA xsB ysB f, (Lit.int .i64 v).wf = true) ∧ (mmY xsA ysA xsB ysB f).length ≤ 100000 ∧ (mmZ xsA ysA xsB ysB f ≠ 0 → mmX xsA ysA xsB ysB f = [] ∧ mmY xsA ysA xsB ysB f = []) := by
  unfold mmX mmY mmZ
  split
  · next hB =>
    unfold mmB at hB
    simp only [Bool.and_eq_true] at hB
    by_cases hz : mulE xsA ysA xsB ysB f.toNat = 0
    · have hz2 := hz
      unfold mulE at hz2
      split at hz2
      · next ho =>
        split at hz2
        · next hall =>
          obtain ⟨I, N, oX, oY, RM⟩ := rmul_of f.toNat hB.1 hB.2.1 ho
          have hg := good_wf RM.gS
          have eX : mulX xsA ysA xsB ysB f.toNat = outL xsA xsB := by unfold mulX; rw [if_pos hz]
          have eY : mulY xsA ysA xsB ysB f.toNat = (List.range N).map (mulW xsA ysA xsB ysB f.toNat) := by unfold mulY; rw [if_pos hz, RM.nN]
          rw [RM.nN] at hall
          rw [eX, eY]
          refine ⟨hg.1, hg.2, fun v hv => ?_, by have := RM.nb; simp; omega, fun h => absurd hz h⟩
          obtain ⟨i, hi, rfl⟩ := List.mem_map.1 hv
          exact isw_wf (List.all_eq_true.1 hall i hi)
        · exact absurd hz2 (by decide)
      · next ho => exact absurd hz2 ho
    · have eX : mulX xsA ysA xsB ysB f.toNat = [] := by unfold mulX; rw [if_neg hz]
      have eY : mulY xsA ysA xsB ysB f.toNat = [] := by unfold mulY; rw [if_neg hz]
      rw [eX, eY]
      exact ⟨by simp, by simp, by simp, by simp, fun _ => ⟨rfl, rfl⟩⟩
  · exact ⟨by simp, by simp, by simp, by simp, fun _ => ⟨rfl, rfl⟩⟩
theorem mt_ok {xs ys : List Int} : (∀ v ∈ mtX xs ys, (Lit.int .i64 v).wf = true) ∧ (mtX xs ys).length ≤ 100000 ∧ (∀ v ∈ mtY xs ys, (Lit.int .i64 v).wf = true) ∧ (mtY xs ys).length ≤ 100000 ∧ (mtZ xs ys ≠ 0 → mtX xs ys = [] ∧ mtY xs ys = []) := by
  by_cases hz : mtZ xs ys = 0
  · have hz2 := hz
    unfold mtZ at hz2
    split at hz2
    · next ht =>
      split at hz2
      · exact absurd hz2 (by decide)
      · next h2 =>
        have hT := tenB_iff.1 (turn_ten ht (by omega : 2 ≤ xs.length))
        have hg := good_wf hT.1
        have hp := goodB_prod hT.1
        have eX : mtX xs ys = swapL xs := by unfold mtX; rw [if_pos hz]
        have eY : mtY xs ys = turnL xs ys := by unfold mtY; rw [if_pos hz]
        rw [eX, eY]
        exact ⟨hg.1, hg.2, fun v hv => isw_wf (hT.2.2 v hv), by have := hT.2.1; omega, fun h => absurd hz h⟩
    · exact absurd hz2 (by decide)
  · have eX : mtX xs ys = [] := by unfold mtX; rw [if_neg hz]
    have eY : mtY xs ys = [] := by unfold mtY; rw [if_neg hz]
    rw [eX, eY]
    exact ⟨by simp, by simp, by simp, by simp, fun _ => ⟨rfl, rfl⟩⟩

set_option maxRecDepth 100000 in
set_option maxHeartbeats 8000000 in
theorem matmulExact_any (q : Option Addr) (n c0 : Nat) (w : World) (h : TwosAt w w.heap.size q n) :
    Calls Tryz.prog 3 #[.slice q n c0] w fun e w' => e = .returned (.bool true) ∧ Below w.heap.size w w' := by
  have hm := h.len
  go_enter Tryz.func3, Tryz.ntmps3
  go_wp2_with fail
  go_loopw [3] (fun i wr => ∃ k : Nat, k ≤ n ∧ i = .int .i64 k ∧ Below w.heap.size w wr) (fun i _ => n - (intOf i).toNat)
  case atStart => exact ⟨0, Nat.zero_le _, rfl, Below.refl _ _⟩
  case round =>
    obtain ⟨k, hk, rfl, hbel⟩ := hrel
    obtain ⟨wo, rfl⟩ : ∃ wo : World, wo = wr := ⟨_, rfl⟩
    by_cases hend : k < n ∧ k < 6
    · obtain ⟨hlt, h20⟩ := hend
      obtain ⟨b0, o_, ⟨a, c, b, d, xsA, ysA⟩, ⟨a', c', b', d', xsB, ysB⟩, f, rfl, ht⟩ := h.at_ k hlt
      replace ht := ht.below hbel
      have hsz := hbel.size
      have HB := Lib.hid hbel
      have tA := ht.tA
      have tB := ht.tB
      dsimp only at tA tB
      have hl1 := tA.sh.len
      have hl2 := tA.da.len
      have hl3 := tB.sh.len
      have hl4 := tB.da.len
      clear hbel h
      have HI0 := Lib.hid (tA.sh.mono hsz)
      have HI1 := Lib.hid (tA.da.mono hsz)
      have HI2 := Lib.hid (tB.sh.mono hsz)
      have HI3 := Lib.hid (tB.da.mono hsz)
      have HC1 := Lib.hid (And.intro tA.c1 tA.c2)
      have HC2 := Lib.hid (And.intro tA.d1 tA.d2)
      have HC3 := Lib.hid (And.intro tB.c1 tB.c2)
      have HC4 := Lib.hid (And.intro tB.d1 tB.d2)
      have hhv := fun W => heavy10_any a b a' b' xsA.length c ysA.length d xsB.length c' ysB.length d' f W hl1 hl2 hl3 hl4
      have q0 := ht.c0
      have q1 := ht.c1
      have q2 := ht.c2
      have q3 := ht.c3
      have q4 := ht.c4
      dsimp only at q0 q1 q2 q3 q4
      have HFB := Lib.hid (And.intro ht.f0 ht.f1)
      clear ht tA tB
      cases hv : heavy2 xsA.length ysA.length xsB.length ysB.length with
      | true =>
        rw [hv] at hhv
        clear hv
        have F1 := Lib.hid ((Fr.start (w := wo) (I := [(.i64, a, xsA), (.i64, b, ysA), (.i64, a', xsB), (.i64, b', ysB)]) (by intro z hz; simp at hz; rcases hz with rfl | rfl | rfl | rfl; exact HI0.out; exact HI1.out; exact HI2.out; exact HI3.out)).box1 (b := wo.heap.size) rfl [.slice a xsA.length c, .slice b ysA.length d, .slice a' xsB.length c', .slice b' ysB.length d', .int .i64 f] 28)
        simp only [List.nil_append] at F1
        go_upto_region 5 with fail
        obtain ⟨W1, hW1⟩ : ∃ W1, wo.alloc (.cells #[.slice a xsA.length c, .slice b ysA.length d, .slice a' xsB.length c', .slice b' ysB.length d', .int .i64 f] 28) = W1 := ⟨_, rfl⟩
        rw [hW1] at F1 ⊢
        clear hW1 q0 q1 q2 q3 q4
        have c0_0 := F1.out.c 0 0 rfl rfl
        have c0_1 := F1.out.c 0 1 rfl rfl
        have c0_2 := F1.out.c 0 2 rfl rfl
        have c0_3 := F1.out.c 0 3 rfl rfl
        have c0_4 := F1.out.c 0 4 rfl rfl
        go_wp2_with (go_at_call 4; refine (hhv W1).mono ?_; rintro e w2 ⟨rfl, hb⟩; have F2 := Lib.hid (F1.out.next hb); clear hb)
        go_ret
        exact ⟨rfl, HB.out.trans (F2.out.bel.mono HB.out.size)⟩
      | false =>
        rw [hv] at hhv
        obtain ⟨g1, g2, g3, g4⟩ := heavy2_no hv
        clear hv
        have F1 := Lib.hid ((Fr.start (w := wo) (I := [(.i64, a, xsA), (.i64, b, ysA), (.i64, a', xsB), (.i64, b', ysB)]) (by intro z hz; simp at hz; rcases hz with rfl | rfl | rfl | rfl; exact HI0.out; exact HI1.out; exact HI2.out; exact HI3.out)).box1 (b := wo.heap.size) rfl [.slice a xsA.length c, .slice b ysA.length d, .slice a' xsB.length c', .slice b' ysB.length d', .int .i64 f] 28)
        simp only [List.nil_append] at F1
        go_upto_region 5 with fail
        obtain ⟨W1, hW1⟩ : ∃ W1, wo.alloc (.cells #[.slice a xsA.length c, .slice b ysA.length d, .slice a' xsB.length c', .slice b' ysB.length d', .int .i64 f] 28) = W1 := ⟨_, rfl⟩
        rw [hW1] at F1 ⊢
        clear hW1 q0 q1 q2 q3 q4
        have c0_0 := F1.out.c 0 0 rfl rfl
        have c0_1 := F1.out.c 0 1 rfl rfl
        have c0_2 := F1.out.c 0 2 rfl rfl
        have c0_3 := F1.out.c 0 3 rfl rfl
        have c0_4 := F1.out.c 0 4 rfl rfl
        go_upto_region 8 with (go_at_call 4; refine (hhv W1).mono ?_; rintro e w2 ⟨rfl, hb⟩; have F2 := Lib.hid (F1.out.next hb); clear hb F1 c0_0 c0_1 c0_2 c0_3 c0_4; have d0_0 := F2.out.c 0 0 rfl rfl; have d0_1 := F2.out.c 0 1 rfl rfl; have d0_2 := F2.out.c 0 2 rfl rfl; have d0_3 := F2.out.c 0 3 rfl rfl; have d0_4 := F2.out.c 0 4 rfl rfl)
        have hVA := fun (p q p' q' : Option Addr) (cp cq cp' cq' : Nat) W (h : Ints .i64 W W.heap.size p xsA) (h2 : Ints .i64 W W.heap.size q ysA) (h3 : Ints .i64 W W.heap.size p' xsB) (h4 : Ints .i64 W W.heap.size q' ysB) (k1 : xsA.length ≤ cp ∧ cp ≤ 9223372036854775807) (k2 : ysA.length ≤ cq ∧ cq ≤ 9223372036854775807) (k3 : xsB.length ≤ cp' ∧ cp' ≤ 9223372036854775807) (k4 : ysB.length ≤ cq' ∧ cq' ≤ 9223372036854775807) => matMul_all p q p' q' cp cq cp' cq' f xsA ysA xsB ysB W ⟨h, h2, k1.1, k1.2, k2.1, k2.2⟩ ⟨h3, h4, k3.1, k3.2, k4.1, k4.2⟩
        have hVB := fun (p q : Option Addr) (cp cq : Nat) W (h : Ints .i64 W W.heap.size p xsA) (h2 : Ints .i64 W W.heap.size q ysA) (k1 : xsA.length ≤ cp ∧ cp ≤ 9223372036854775807) (k2 : ysA.length ≤ cq ∧ cq ≤ 9223372036854775807) => matTurn_all p q cp cq xsA ysA W ⟨h, h2, k1.1, k1.2, k2.1, k2.2⟩
        have HW1 := Lib.hid HI0.out.wf
        have HW2 := Lib.hid HI1.out.wf
        have HW3 := Lib.hid HI2.out.wf
        have HW4 := Lib.hid HI3.out.wf
        have okA := mm_ok (xsA := xsA) (ysA := ysA) (xsB := xsB) (ysB := ysB) (f := f)
        have okB := mt_ok (xs := xsA) (ys := ysA)
        obtain ⟨AZ, hAZ⟩ : ∃ z, mmZ xsA ysA xsB ysB f = z := ⟨_, rfl⟩
        obtain ⟨AX, hAX⟩ : ∃ z, mmX xsA ysA xsB ysB f = z := ⟨_, rfl⟩
        obtain ⟨AY, hAY⟩ : ∃ z, mmY xsA ysA xsB ysB f = z := ⟨_, rfl⟩
        rw [hAZ, hAX, hAY] at hVA okA
        obtain ⟨o1, o2, o3, o4, o5⟩ := okA
        have HVA := Lib.hid hVA
        have EAZ := Lib.hid hAZ
        have EAX := Lib.hid hAX
        have EAY := Lib.hid hAY
        have HWAX := Lib.hid o1
        have HLAX := Lib.hid o2
        have HWAY := Lib.hid o3
        have HLAY := Lib.hid o4
        have HNA := Lib.hid o5
        clear hVA hAZ hAX hAY o1 o2 o3 o4 o5
        obtain ⟨BZ, hBZ⟩ : ∃ z, mtZ xsA ysA = z := ⟨_, rfl⟩
        obtain ⟨BX, hBX⟩ : ∃ z, mtX xsA ysA = z := ⟨_, rfl⟩
        obtain ⟨BY, hBY⟩ : ∃ z, mtY xsA ysA = z := ⟨_, rfl⟩
        rw [hBZ, hBX, hBY] at hVB okB
        obtain ⟨o1, o2, o3, o4, o5⟩ := okB
        have HVB := Lib.hid hVB
        have EBZ := Lib.hid hBZ
        have EBX := Lib.hid hBX
        have EBY := Lib.hid hBY
        have HWBX := Lib.hid o1
        have HLBX := Lib.hid o2
        have HWBY := Lib.hid o3
        have HLBY := Lib.hid o4
        have HNB := Lib.hid o5
        clear hVB hBZ hBX hBY o1 o2 o3 o4 o5
        have htA := fun W (h : Ints .i64 W W.heap.size a xsA) (h2 : Ints .i64 W W.heap.size b ysA) => tenMay_any a b c d xsA ysA W h h2
        have htB := fun W (h : Ints .i64 W W.heap.size a' xsB) (h2 : Ints .i64 W W.heap.size b' ysB) => tenMay_any a' b' c' d' xsB ysB W h h2
        have hmf := fun W => rmayF_any f W
        have hfo : (decide (8 ≤ f) && decide (f ≤ 32)) = fOk f := rfl
        simp only [hfo] at hmf
        obtain ⟨ta, hta⟩ : ∃ t, tenB xsA ysA = t := ⟨_, rfl⟩
        rw [hta] at htA
        have Eta := Lib.hid hta
        have HhtA := Lib.hid htA
        obtain ⟨tb, htb⟩ : ∃ t, tenB xsB ysB = t := ⟨_, rfl⟩
        rw [htb] at htB
        have Etb := Lib.hid htb
        have HhtB := Lib.hid htB
        obtain ⟨fb, hfb⟩ : ∃ t, fOk f = t := ⟨_, rfl⟩
        rw [hfb] at hmf
        have Efb := Lib.hid hfb
        have Hhmf := Lib.hid hmf
        clear hfo hta htb hfb htA htB hmf
        obtain ⟨A0, hA0⟩ : ∃ z : Int, (if (ta && (tb && fb)) = true then 0 else 1) = z := ⟨_, rfl⟩
        have EA0 := Lib.hid hA0
        obtain ⟨B0, hB0⟩ : ∃ z : Int, (if ta = true then 0 else 1) = z := ⟨_, rfl⟩
        have EB0 := Lib.hid hB0
        clear hA0 hB0
        go_cut [44] from 29 to 44 (fun s44 wx => s44 = .bool (!(ta && (tb && fb))) ∧ Hid (Fr wo.heap.size wo wx [(wo.heap.size, [.slice a xsA.length c, .slice b ysA.length d, .slice a' xsB.length c', .slice b' ysB.length d', .int .i64 f])] [(.i64, a, xsA), (.i64, b, ysA), (.i64, a', xsB), (.i64, b', ysB)] [] []))
        case first =>
          cases ta with
          | false =>
            go_wp2_with (first | (go_at_call_of 5 (Value.agg #[.slice a xsA.length c, .slice b ysA.length d]); refine (HhtA.out _ (F2.out.lw 0 rfl) (F2.out.lw 1 rfl)).mono ?_; rintro e w3 ⟨rfl, hb⟩; have F3 := Lib.hid (F2.out.next hb); clear hb F2 d0_0 d0_1 d0_2 d0_3 d0_4) | fail)
            go_meet
            exact ⟨rfl, F3⟩
          | true =>
            cases tb with
            | false =>
              go_wp2_with (first | (go_at_call_of 5 (Value.agg #[.slice a xsA.length c, .slice b ysA.length d]); refine (HhtA.out _ (F2.out.lw 0 rfl) (F2.out.lw 1 rfl)).mono ?_; rintro e w3 ⟨rfl, hb⟩; have F3 := Lib.hid (F2.out.next hb); clear hb F2 d0_0 d0_1 d0_2 d0_3 d0_4; have d0_0 := F3.out.c 0 0 rfl rfl; have d0_1 := F3.out.c 0 1 rfl rfl; have d0_2 := F3.out.c 0 2 rfl rfl; have d0_3 := F3.out.c 0 3 rfl rfl; have d0_4 := F3.out.c 0 4 rfl rfl) | (go_at_call_of 5 (Value.agg #[.slice a' xsB.length c', .slice b' ysB.length d']); refine (HhtB.out _ (F3.out.lw 2 rfl) (F3.out.lw 3 rfl)).mono ?_; rintro e w4 ⟨rfl, hb⟩; have F4 := Lib.hid (F3.out.next hb); clear hb F3 d0_0 d0_1 d0_2 d0_3 d0_4) | fail)
              go_meet
              exact ⟨rfl, F4⟩
            | true =>
              cases fb with
              | false =>
                go_wp2_with (first | (go_at_call_of 5 (Value.agg #[.slice a xsA.length c, .slice b ysA.length d]); refine (HhtA.out _ (F2.out.lw 0 rfl) (F2.out.lw 1 rfl)).mono ?_; rintro e w3 ⟨rfl, hb⟩; have F3 := Lib.hid (F2.out.next hb); clear hb F2 d0_0 d0_1 d0_2 d0_3 d0_4; have d0_0 := F3.out.c 0 0 rfl rfl; have d0_1 := F3.out.c 0 1 rfl rfl; have d0_2 := F3.out.c 0 2 rfl rfl; have d0_3 := F3.out.c 0 3 rfl rfl; have d0_4 := F3.out.c 0 4 rfl rfl) | (go_at_call_of 5 (Value.agg #[.slice a' xsB.length c', .slice b' ysB.length d']); refine (HhtB.out _ (F3.out.lw 2 rfl) (F3.out.lw 3 rfl)).mono ?_; rintro e w4 ⟨rfl, hb⟩; have F4 := Lib.hid (F3.out.next hb); clear hb F3 d0_0 d0_1 d0_2 d0_3 d0_4; have d0_0 := F4.out.c 0 0 rfl rfl; have d0_1 := F4.out.c 0 1 rfl rfl; have d0_2 := F4.out.c 0 2 rfl rfl; have d0_3 := F4.out.c 0 3 rfl rfl; have d0_4 := F4.out.c 0 4 rfl rfl) | (go_at_call 6; refine (Hhmf.out _).mono ?_; rintro e w' ⟨rfl, rfl⟩) | fail)
                go_meet
                exact ⟨rfl, F4⟩
              | true =>
                go_wp2_with (first | (go_at_call_of 5 (Value.agg #[.slice a xsA.length c, .slice b ysA.length d]); refine (HhtA.out _ (F2.out.lw 0 rfl) (F2.out.lw 1 rfl)).mono ?_; rintro e w3 ⟨rfl, hb⟩; have F3 := Lib.hid (F2.out.next hb); clear hb F2 d0_0 d0_1 d0_2 d0_3 d0_4; have d0_0 := F3.out.c 0 0 rfl rfl; have d0_1 := F3.out.c 0 1 rfl rfl; have d0_2 := F3.out.c 0 2 rfl rfl; have d0_3 := F3.out.c 0 3 rfl rfl; have d0_4 := F3.out.c 0 4 rfl rfl) | (go_at_call_of 5 (Value.agg #[.slice a' xsB.length c', .slice b' ysB.length d']); refine (HhtB.out _ (F3.out.lw 2 rfl) (F3.out.lw 3 rfl)).mono ?_; rintro e w4 ⟨rfl, hb⟩; have F4 := Lib.hid (F3.out.next hb); clear hb F3 d0_0 d0_1 d0_2 d0_3 d0_4; have d0_0 := F4.out.c 0 0 rfl rfl; have d0_1 := F4.out.c 0 1 rfl rfl; have d0_2 := F4.out.c 0 2 rfl rfl; have d0_3 := F4.out.c 0 3 rfl rfl; have d0_4 := F4.out.c 0 4 rfl rfl) | (go_at_call 6; refine (Hhmf.out _).mono ?_; rintro e w' ⟨rfl, rfl⟩) | fail)
                go_meet
                exact ⟨rfl, F4⟩
        case rest =>
          obtain ⟨rfl, F5⟩ := hcut
          clear F2 d0_0 d0_1 d0_2 d0_3 d0_4
          obtain ⟨w5, rfl⟩ : ∃ z : World, z = wc := ⟨_, rfl⟩
          go_upto_if 44 with fail
          go_cut [5] from 44 to 44 (fun s5 wx => s5 = .int .i64 A0 ∧ wx = w5)
          case first =>
            cases hfx : (ta && (tb && fb)) with
            | true =>
              have hz : A0 = 0 := by rw [← EA0.out, hfx]; rfl
              go_wp2
              go_meet
              exact ⟨by rw [hz], rfl⟩
            | false =>
              have hz : A0 = 1 := by rw [← EA0.out, hfx]; rfl
              go_wp2
              go_meet
              exact ⟨by rw [hz], rfl⟩
          case rest =>
            obtain ⟨rfl, rfl⟩ := hcut
            have d0_0 := F5.out.c 0 0 rfl rfl
            have d0_1 := F5.out.c 0 1 rfl rfl
            have d0_2 := F5.out.c 0 2 rfl rfl
            have d0_3 := F5.out.c 0 3 rfl rfl
            have d0_4 := F5.out.c 0 4 rfl rfl
            go_upto_if 48 with (go_at_call 5; refine (HhtA.out _ (F5.out.lw 0 rfl) (F5.out.lw 1 rfl)).mono ?_; rintro e w3 ⟨rfl, hb⟩; have F3 := Lib.hid (F5.out.next hb); clear hb F5 d0_0 d0_1 d0_2 d0_3 d0_4)
            go_cut [6] from 48 to 48 (fun s6 wx => s6 = .int .i64 B0 ∧ wx = w3)
            case first =>
              cases ta with
              | true =>
                have hz : B0 = 0 := by rw [← EB0.out]; rfl
                go_wp2
                go_meet
                exact ⟨by rw [hz], rfl⟩
              | false =>
                have hz : B0 = 1 := by rw [← EB0.out]; rfl
                go_wp2
                go_meet
                exact ⟨by rw [hz], rfl⟩
            case rest =>
              obtain ⟨rfl, rfl⟩ := hcut
              go_upto_region 13 with fail
              obtain ⟨w5, rfl⟩ : ∃ z : World, z = wc := ⟨_, rfl⟩
              obtain ⟨S6, hS6⟩ : ∃ z, w5.heap.size = z := ⟨_, rfl⟩
              have F6 := Lib.hid ((F3.out.box1 (b := S6) (by simp [hS6]) [.slice none 0 0, .slice none 0 0] 26).box1 (b := S6 + 1) (by simp [hS6]) [.slice none 0 0, .slice none 0 0] 26)
              simp only [List.nil_append, List.cons_append] at F6
              go_upto_region 14 with fail
              (try simp only [hS6])
              obtain ⟨W6, hW6⟩ : ∃ z, ((w5.alloc (.cells #[.slice none 0 0, .slice none 0 0] 26)).alloc (.cells #[.slice none 0 0, .slice none 0 0] 26)) = z := ⟨_, rfl⟩
              rw [hW6] at F6 ⊢
              clear hW6 F3
              obtain ⟨Y7, hY7⟩ : ∃ z, S6 = z := ⟨_, rfl⟩
              obtain ⟨Y8, hY8⟩ : ∃ z, S6 + 1 = z := ⟨_, rfl⟩
              rw [hY8, hY7] at F6 ⊢
              clear hS6 hY7 hY8
              go_upto_if 50 with fail
              go_cut [5] from 51 to 60 (fun s9 wx => s9 = .int .i64 AZ ∧ ∃ a7 c7 b7 d7, Hid (Fr wo.heap.size wo wx [(wo.heap.size, [.slice a xsA.length c, .slice b ysA.length d, .slice a' xsB.length c', .slice b' ysB.length d', .int .i64 f]), (Y7, [.slice a7 AX.length c7, .slice b7 AY.length d7]), (Y8, [.slice none 0 0, .slice none 0 0])] [(.i64, a, xsA), (.i64, b, ysA), (.i64, a', xsB), (.i64, b', ysB)] [⟨3, .slice a7 AX.length c7, AX.length, AX.map (Value.int .i64)⟩, ⟨2, .slice b7 AY.length d7, AY.length, AY.map (Value.int .i64)⟩] []))
              case first =>
                by_cases htb : (ta && (tb && fb)) = true
                · skip
                  obtain rfl : A0 = 0 := by rw [← EA0.out, htb]; rfl
                  have hmb : mmB xsA ysA xsB ysB f = true := by unfold mmB; rw [Eta.out, Etb.out, Efb.out]; exact htb
                  have hm2 := hmb
                  unfold mmB fOk at hm2
                  simp only [Bool.and_eq_true, decide_eq_true_eq] at hm2
                  obtain ⟨e1, e2, e3, e4⟩ := hm2
                  obtain ⟨fn, hfn⟩ : ∃ z : Nat, f = z := ⟨f.toNat, by omega⟩
                  have htn : f.toNat = fn := by omega
                  have hrt := fun W (h : Ints .i64 W W.heap.size a xsA) (h2 : Ints .i64 W W.heap.size b ysA) (h3 : Ints .i64 W W.heap.size a' xsB) (h4 : Ints .i64 W W.heap.size b' ysB) => rmul_any a b a' b' c d c' d' fn xsA ysA xsB ysB W ⟨h, h2, HC1.out.1, HC1.out.2, HC2.out.1, HC2.out.2⟩ ⟨h3, h4, HC3.out.1, HC3.out.2, HC4.out.1, HC4.out.2⟩ e1 e2 (by omega)
                  rw [show mulX xsA ysA xsB ysB fn = AX by rw [← EAX.out]; unfold mmX; rw [if_pos hmb, htn], show mulY xsA ysA xsB ysB fn = AY by rw [← EAY.out]; unfold mmY; rw [if_pos hmb, htn], show mulE xsA ysA xsB ysB fn = AZ by rw [← EAZ.out]; unfold mmZ; rw [if_pos hmb, htn], ← hfn] at hrt
                  have HRT := Lib.hid hrt
                  clear hrt hmb e1 e2 e3 e4 hfn htn htb
                  have d0_0 := F6.out.c 0 0 rfl rfl
                  have d0_1 := F6.out.c 0 1 rfl rfl
                  have d0_2 := F6.out.c 0 2 rfl rfl
                  have d0_3 := F6.out.c 0 3 rfl rfl
                  have d0_4 := F6.out.c 0 4 rfl rfl
                  go_wp2_with (go_at_call 7; refine (HRT.out _ (F6.out.lw 0 rfl) (F6.out.lw 1 rfl) (F6.out.lw 2 rfl) (F6.out.lw 3 rfl)).mono ?_; rintro e wz ⟨a7, c7, b7, d7, rfl, hf⟩; have FZ := Lib.hid (F6.out.join hf); simp only [List.cons_append, List.nil_append] at FZ; clear hf F6 d0_0 d0_1 d0_2 d0_3 d0_4; have z1_0 := FZ.out.c 1 0 rfl rfl; have z1_1 := FZ.out.c 1 1 rfl rfl; have zf1_0 := FZ.out.f 1 0 rfl rfl; have zf1_1 := FZ.out.f 1 1 rfl rfl)
                  go_meet
                  exact ⟨rfl, a7, c7, b7, d7, Lib.hid (by have := FZ.out.set 1 rfl (by simp) [.slice a7 AX.length c7, .slice b7 AY.length d7] rfl; simpa only [setL, Nat.reduceAdd, List.set_cons_zero, List.set_cons_succ, List.cons_append, List.nil_append] using this)⟩
                · skip
                  have htf : (ta && (tb && fb)) = false := by simpa using htb
                  obtain rfl : A0 = 1 := by rw [← EA0.out, htf]; rfl
                  have hz1 : AZ = 1 := by rw [← EAZ.out]; unfold mmZ mmB; rw [Eta.out, Etb.out, Efb.out, htf]; rfl
                  have HZ1 := Lib.hid hz1
                  clear hz1 htb htf
                  go_wp2
                  go_meet
                  have n1 := HNA.out (by rw [HZ1.out]; decide)
                  exact ⟨by rw [HZ1.out], none, 0, none, 0, Lib.hid (by rw [n1.1, n1.2]; have h9 := (F6.out.addNil 3).addNil 2; simpa only [List.append_assoc, List.cons_append, List.nil_append, List.map_nil, List.length_nil] using h9)⟩
              case rest =>
                obtain ⟨rfl, a7, c7, b7, d7, F7⟩ := hcut
                clear F6
                go_upto_region 16 with fail
                obtain ⟨w6, rfl⟩ : ∃ z : World, z = wc := ⟨_, rfl⟩
                have d0_0 := F7.out.c 0 0 rfl rfl
                have d0_1 := F7.out.c 0 1 rfl rfl
                have d0_2 := F7.out.c 0 2 rfl rfl
                have d0_3 := F7.out.c 0 3 rfl rfl
                have d0_4 := F7.out.c 0 4 rfl rfl
                go_cut [69] from 61 to 69 (fun s69 wx => s69 = .bool (ta && decide (xsA.length < 2)) ∧ wx = w6)
                case first =>
                  cases ta with
                  | false =>
                    obtain rfl : B0 = 1 := by rw [← EB0.out]; rfl
                    go_wp2
                    go_meet
                    exact ⟨rfl, rfl⟩
                  | true =>
                    obtain rfl : B0 = 0 := by rw [← EB0.out]; rfl
                    by_cases hr : xsA.length < 2
                    · have hri : (xsA.length : Int) < 2 := by omega
                      go_wp2
                      go_meet
                      exact ⟨by simp [hr], rfl⟩
                    · have hri : ¬ (xsA.length : Int) < 2 := by omega
                      go_wp2
                      go_meet
                      exact ⟨by simp [hr], rfl⟩
                case rest =>
                  obtain ⟨rfl, rfl⟩ := hcut
                  clear d0_0 d0_1 d0_2 d0_3 d0_4
                  go_upto_if 69 with fail
                  go_cut [6] from 69 to 69 (fun s6 wx => s6 = .int .i64 BZ ∧ wx = wc)
                  case first =>
                    cases hfx : (ta && decide (xsA.length < 2)) with
                    | true =>
                      have hz : BZ = 2 := by
                        rw [Bool.and_eq_true, decide_eq_true_eq] at hfx
                        rw [← EBZ.out]; unfold mtZ; rw [Eta.out, if_pos hfx.1, if_pos hfx.2]
                      go_wp2
                      go_meet
                      exact ⟨by rw [hz], rfl⟩
                    | false =>
                      have hz : BZ = B0 := by
                        rw [← EBZ.out, ← EB0.out]; unfold mtZ; rw [Eta.out]
                        cases ta with
                        | false => rfl
                        | true =>
                          rw [if_pos rfl, if_pos rfl, if_neg]
                          rw [Bool.true_and, decide_eq_false_iff_not] at hfx
                          exact hfx
                      go_wp2
                      go_meet
                      exact ⟨by rw [hz], rfl⟩
                  case rest =>
                    obtain ⟨rfl, rfl⟩ := hcut
                    go_upto_if 71 with fail
                    go_cut [6] from 71 to 74 (fun s9 wx => s9 = .int .i64 BZ ∧ ∃ a8 c8 b8 d8, Hid (Fr wo.heap.size wo wx [(wo.heap.size, [.slice a xsA.length c, .slice b ysA.length d, .slice a' xsB.length c', .slice b' ysB.length d', .int .i64 f]), (Y7, [.slice a7 AX.length c7, .slice b7 AY.length d7]), (Y8, [.slice a8 BX.length c8, .slice b8 BY.length d8])] [(.i64, a, xsA), (.i64, b, ysA), (.i64, a', xsB), (.i64, b', ysB)] [⟨3, .slice a7 AX.length c7, AX.length, AX.map (Value.int .i64)⟩, ⟨2, .slice b7 AY.length d7, AY.length, AY.map (Value.int .i64)⟩, ⟨3, .slice a8 BX.length c8, BX.length, BX.map (Value.int .i64)⟩, ⟨2, .slice b8 BY.length d8, BY.length, BY.map (Value.int .i64)⟩] []))
                    case first =>
                      by_cases htb : BZ = 0
                      · skip
                        subst htb
                        have hz := EBZ.out
                        have hta : tenB xsA ysA = true := by
                          unfold mtZ at hz
                          split at hz
                          · assumption
                          · exact absurd hz (by decide)
                        have hr2 : 2 ≤ xsA.length := by
                          unfold mtZ at hz
                          rw [if_pos hta] at hz
                          split at hz
                          · exact absurd hz (by decide)
                          · omega
                        have hrt := fun W (h : Ints .i64 W W.heap.size a xsA) (h2 : Ints .i64 W W.heap.size b ysA) => rturn_any a b c d xsA ysA W h h2 hta hr2
                        rw [show swapL xsA = BX by rw [← EBX.out]; unfold mtX; rw [if_pos hz], show turnL xsA ysA = BY by rw [← EBY.out]; unfold mtY; rw [if_pos hz]] at hrt
                        have HRT := Lib.hid hrt
                        clear hrt hz hta hr2
                        have d0_0 := F7.out.c 0 0 rfl rfl
                        have d0_1 := F7.out.c 0 1 rfl rfl
                        have d0_2 := F7.out.c 0 2 rfl rfl
                        have d0_3 := F7.out.c 0 3 rfl rfl
                        have d0_4 := F7.out.c 0 4 rfl rfl
                        go_wp2_with (go_at_call 8; refine (HRT.out _ (F7.out.lw 0 rfl) (F7.out.lw 1 rfl)).mono ?_; rintro e wz ⟨a8, c8, b8, d8, rfl, hf⟩; have FZ := Lib.hid (F7.out.join hf); simp only [List.cons_append, List.nil_append] at FZ; clear hf F7 d0_0 d0_1 d0_2 d0_3 d0_4; have z2_0 := FZ.out.c 2 0 rfl rfl; have z2_1 := FZ.out.c 2 1 rfl rfl; have zf2_0 := FZ.out.f 2 0 rfl rfl; have zf2_1 := FZ.out.f 2 1 rfl rfl)
                        go_meet
                        exact ⟨rfl, a8, c8, b8, d8, Lib.hid (by have := FZ.out.set 2 rfl (by simp) [.slice a8 BX.length c8, .slice b8 BY.length d8] rfl; simpa only [setL, Nat.reduceAdd, List.set_cons_zero, List.set_cons_succ, List.cons_append, List.nil_append] using this)⟩
                      · skip
                        have HZ1 : Hid (BZ = BZ) := Lib.hid rfl
                        have hbz : (BZ == 0) = false := by simpa using htb
                        go_wp2
                        go_meet
                        have n1 := HNB.out htb
                        exact ⟨rfl, none, 0, none, 0, Lib.hid (by rw [n1.1, n1.2]; have h9 := (F7.out.addNil 3).addNil 2; simpa only [List.append_assoc, List.cons_append, List.nil_append, List.map_nil, List.length_nil] using h9)⟩
                    case rest =>
                      obtain ⟨rfl, a8, c8, b8, d8, F8⟩ := hcut
                      clear F7
                      have hcA := fun W (h : Ints .i64 W W.heap.size a xsA) (h2 : Ints .i64 W W.heap.size b ysA) => copyTen_any a b c d xsA ysA W h h2 (by omega) (by omega)
                      have hcB := fun W (h : Ints .i64 W W.heap.size a' xsB) (h2 : Ints .i64 W W.heap.size b' ysB) => copyTen_any a' b' c' d' xsB ysB W h h2 (by omega) (by omega)
                      have HCA := Lib.hid hcA
                      have HCB := Lib.hid hcB
                      clear hcA hcB
                      have d0_0 := F8.out.c 0 0 rfl rfl
                      have d0_1 := F8.out.c 0 1 rfl rfl
                      have d0_2 := F8.out.c 0 2 rfl rfl
                      have d0_3 := F8.out.c 0 3 rfl rfl
                      have d0_4 := F8.out.c 0 4 rfl rfl
                      go_upto_region 21 with (go_at_call 9; refine (HCA.out _ (F8.out.lw 0 rfl) (F8.out.lw 1 rfl)).mono ?_; rintro e w9 ⟨a9, c9, b9, d9, rfl, hf⟩; have F9 := Lib.hid (F8.out.join hf); simp only [List.cons_append, List.nil_append] at F9; clear hf F8 d0_0 d0_1 d0_2 d0_3 d0_4)
                      obtain ⟨Y9, hY9⟩ : ∃ x, w9.heap.size = x := ⟨_, rfl⟩
                      rw [hY9]
                      have F10 := Lib.hid (F9.out.box1 (b := Y9) hY9 [.slice a9 xsA.length c9, .slice b9 ysA.length d9] 26)
                      simp only [List.nil_append, List.cons_append] at F10
                      obtain ⟨W10, hW10⟩ : ∃ x, (w9.alloc (.cells #[.slice a9 xsA.length c9, .slice b9 ysA.length d9] 26)) = x := ⟨_, rfl⟩
                      rw [hW10] at F10 ⊢
                      clear hW10 hY9 F9
                      have d0_0 := F10.out.c 0 0 rfl rfl
                      have d0_1 := F10.out.c 0 1 rfl rfl
                      have d0_2 := F10.out.c 0 2 rfl rfl
                      have d0_3 := F10.out.c 0 3 rfl rfl
                      have d0_4 := F10.out.c 0 4 rfl rfl
                      go_upto_region 22 with (go_at_call 9; refine (HCB.out _ (F10.out.lw 2 rfl) (F10.out.lw 3 rfl)).mono ?_; rintro e w11 ⟨a10, c10, b10, d10, rfl, hf⟩; have F11 := Lib.hid (F10.out.join hf); simp only [List.cons_append, List.nil_append] at F11; clear hf F10 d0_0 d0_1 d0_2 d0_3 d0_4)
                      obtain ⟨Y10, hY10⟩ : ∃ x, w11.heap.size = x := ⟨_, rfl⟩
                      rw [hY10]
                      have F12 := Lib.hid (F11.out.box1 (b := Y10) hY10 [.slice a10 xsB.length c10, .slice b10 ysB.length d10] 26)
                      simp only [List.nil_append, List.cons_append] at F12
                      obtain ⟨W12, hW12⟩ : ∃ x, (w11.alloc (.cells #[.slice a10 xsB.length c10, .slice b10 ysB.length d10] 26)) = x := ⟨_, rfl⟩
                      rw [hW12] at F12 ⊢
                      clear hW12 hY10 F11
                      have HK1 := Lib.hid (own_cap (F12.out.r 4 rfl))
                      have HK2 := Lib.hid (own_cap (F12.out.r 5 rfl))
                      have HK3 := Lib.hid (own_cap (F12.out.r 6 rfl))
                      have HK4 := Lib.hid (own_cap (F12.out.r 7 rfl))
                      clear HCA HCB
                      have d0_0 := F12.out.c 0 0 rfl rfl
                      have d0_1 := F12.out.c 0 1 rfl rfl
                      have d0_2 := F12.out.c 0 2 rfl rfl
                      have d0_3 := F12.out.c 0 3 rfl rfl
                      have d0_4 := F12.out.c 0 4 rfl rfl
                      have d3_0 := F12.out.c 3 0 rfl rfl
                      have d3_1 := F12.out.c 3 1 rfl rfl
                      have d4_0 := F12.out.c 4 0 rfl rfl
                      have d4_1 := F12.out.c 4 1 rfl rfl
                      go_upto_region 23 with (go_at_call 10; refine (HVA.out a9 b9 a10 b10 c9 d9 c10 d10 _ (F12.out.li 4 (k := .i64) (xs := xsA) rfl HW1.out) (F12.out.li 5 (k := .i64) (xs := ysA) rfl HW2.out) (F12.out.li 6 (k := .i64) (xs := xsB) rfl HW3.out) (F12.out.li 7 (k := .i64) (xs := ysB) rfl HW4.out) HK1.out HK2.out HK3.out HK4.out).mono ?_; rintro e wa0 ⟨xa, xc, ya, yd, rfl, hf⟩; have Fa0 := Lib.hid (F12.out.join hf); simp only [List.cons_append, List.nil_append] at Fa0; clear hf F12 d0_0 d0_1 d0_2 d0_3 d0_4 d3_0 d3_1 d4_0 d4_1)
                      obtain ⟨Y11, hY11⟩ : ∃ x, wa0.heap.size = x := ⟨_, rfl⟩
                      rw [hY11]
                      have Fb0 := Lib.hid (Fa0.out.box1 (b := Y11) hY11 [.slice xa AX.length xc, .slice ya AY.length yd] 26)
                      simp only [List.nil_append, List.cons_append] at Fb0
                      obtain ⟨Wb0, hWb0⟩ : ∃ x, (wa0.alloc (.cells #[.slice xa AX.length xc, .slice ya AY.length yd] 26)) = x := ⟨_, rfl⟩
                      rw [hWb0] at Fb0 ⊢
                      clear hWb0 hY11 Fa0
                      have HIS := Lib.hid (is8_any xa ya a7 b7 xc yd c7 d7 wo.heap.size AX AY AX AY AZ AZ Wb0 (Fb0.out.r 8 rfl) (Fb0.out.r 9 rfl) (frNe Fb0.out 8 9 (by decide) rfl rfl) HLAX.out HLAY.out Fb0.out.hlo HWAX.out HWAY.out (Fb0.out.li 0 (k := .i64) (xs := AX) rfl HWAX.out) (Fb0.out.li 1 (k := .i64) (xs := AY) rfl HWAY.out) rfl (fun _ => ⟨rfl, rfl⟩) HNA.out)
                      have d5_0 := Fb0.out.c 5 0 rfl rfl
                      have d5_1 := Fb0.out.c 5 1 rfl rfl
                      have d1_0 := Fb0.out.c 1 0 rfl rfl
                      have d1_1 := Fb0.out.c 1 1 rfl rfl
                      go_upto_region 25 with (go_at_call 11; refine (HIS.out).mono ?_; rintro e wc0 ⟨rfl, U1, U2, hb1, hg2, hg3⟩; have Fd0 := Lib.hid (((Fb0.out.next hb1).spoil 8 rfl hg2).spoil 8 rfl hg3); simp only [List.eraseIdx_cons_succ, List.eraseIdx_cons_zero, List.eraseIdx_zero, List.tail_cons] at Fd0; clear hb1 hg2 hg3 HIS Fb0 d5_0 d5_1 d1_0 d1_1)
                      have d3_0 := Fd0.out.c 3 0 rfl rfl
                      have d3_1 := Fd0.out.c 3 1 rfl rfl
                      have d5_0 := Fd0.out.c 5 0 rfl rfl
                      have d5_1 := Fd0.out.c 5 1 rfl rfl
                      have df5_0 := Fd0.out.f 5 0 rfl rfl
                      have df5_1 := Fd0.out.f 5 1 rfl rfl
                      go_upto_region 26 with (go_at_call 12; refine (HVB.out a9 b9 c9 d9 _ (Fd0.out.li 4 (k := .i64) (xs := xsA) rfl HW1.out) (Fd0.out.li 5 (k := .i64) (xs := ysA) rfl HW2.out) HK1.out HK2.out).mono ?_; rintro e wa1 ⟨xa, xc, ya, yd, rfl, hf⟩; have Fa1 := Lib.hid (Fd0.out.join hf); simp only [List.cons_append, List.nil_append] at Fa1; clear hf Fd0 d3_0 d3_1 d5_0 d5_1 df5_0 df5_1; have e5_0 := Fa1.out.c 5 0 rfl rfl; have e5_1 := Fa1.out.c 5 1 rfl rfl; have ef5_0 := Fa1.out.f 5 0 rfl rfl; have ef5_1 := Fa1.out.f 5 1 rfl rfl)
                      have Fb1 := Lib.hid (Fa1.out.set 5 rfl (by simp) [.slice xa BX.length xc, .slice ya BY.length yd] rfl)
                      simp only [List.set_cons_zero, List.set_cons_succ] at Fb1
                      obtain ⟨Wb1, hWb⟩ : ∃ x, setL wa1 Y11 0 [.slice xa BX.length xc, .slice ya BY.length yd] = x := ⟨_, rfl⟩
                      rw [hWb] at Fb1
                      simp only [setL, Nat.reduceAdd] at hWb
                      rw [hWb]
                      clear hWb Fa1 e5_0 e5_1 ef5_0 ef5_1
                      have HIS := Lib.hid (is8_any xa ya a8 b8 xc yd c8 d8 wo.heap.size BX BY BX BY BZ BZ Wb1 (Fb1.out.r 8 rfl) (Fb1.out.r 9 rfl) (frNe Fb1.out 8 9 (by decide) rfl rfl) HLBX.out HLBY.out Fb1.out.hlo HWBX.out HWBY.out (Fb1.out.li 2 (k := .i64) (xs := BX) rfl HWBX.out) (Fb1.out.li 3 (k := .i64) (xs := BY) rfl HWBY.out) rfl (fun _ => ⟨rfl, rfl⟩) HNB.out)
                      have d5_0 := Fb1.out.c 5 0 rfl rfl
                      have d5_1 := Fb1.out.c 5 1 rfl rfl
                      have d2_0 := Fb1.out.c 2 0 rfl rfl
                      have d2_1 := Fb1.out.c 2 1 rfl rfl
                      have hevA := fun W (h1 : Ints .i64 W W.heap.size a9 xsA) (h2 : Ints .i64 W W.heap.size b9 ysA) (h3 : Ints .i64 W W.heap.size a xsA) (h4 : Ints .i64 W W.heap.size b ysA) => eqTensor_any a9 b9 a b c9 d9 c d xsA ysA xsA ysA W h1 h2 h3 h4
                      have hevB := fun W (h1 : Ints .i64 W W.heap.size a10 xsB) (h2 : Ints .i64 W W.heap.size b10 ysB) (h3 : Ints .i64 W W.heap.size a' xsB) (h4 : Ints .i64 W W.heap.size b' ysB) => eqTensor_any a10 b10 a' b' c10 d10 c' d' xsB ysB xsB ysB W h1 h2 h3 h4
                      simp only [decide_true, Bool.and_true] at hevA hevB
                      have HEA := Lib.hid hevA
                      have HEB := Lib.hid hevB
                      clear hevA hevB
                      go_wp2_with (first | (go_at_call 11; refine (HIS.out).mono ?_; rintro e wc1 ⟨rfl, U1, U2, hb1, hg2, hg3⟩; have Fd1 := Lib.hid (((Fb1.out.next hb1).spoil 8 rfl hg2).spoil 8 rfl hg3); simp only [List.eraseIdx_cons_succ, List.eraseIdx_cons_zero, List.eraseIdx_zero, List.tail_cons] at Fd1; clear hb1 hg2 hg3 HIS Fb1 d5_0 d5_1 d2_0 d2_1; have f0_0 := Fd1.out.c 0 0 rfl rfl; have f0_1 := Fd1.out.c 0 1 rfl rfl; have f0_2 := Fd1.out.c 0 2 rfl rfl; have f0_3 := Fd1.out.c 0 3 rfl rfl; have f0_4 := Fd1.out.c 0 4 rfl rfl; have f3_0 := Fd1.out.c 3 0 rfl rfl; have f3_1 := Fd1.out.c 3 1 rfl rfl; have f4_0 := Fd1.out.c 4 0 rfl rfl; have f4_1 := Fd1.out.c 4 1 rfl rfl) | (go_at_call_of 13 (Value.agg #[.slice a9 xsA.length c9, .slice b9 ysA.length d9]); refine (HEA.out _ (Fd1.out.li 4 (k := .i64) (xs := xsA) rfl HW1.out) (Fd1.out.li 5 (k := .i64) (xs := ysA) rfl HW2.out) (Fd1.out.lw 0 rfl) (Fd1.out.lw 1 rfl)).mono ?_; rintro e w30 ⟨rfl, hb⟩; have F30 := Lib.hid (Fd1.out.next hb); clear hb Fd1 f0_0 f0_1 f0_2 f0_3 f0_4 f3_0 f3_1 f4_0 f4_1; have f0_0 := F30.out.c 0 0 rfl rfl; have f0_1 := F30.out.c 0 1 rfl rfl; have f0_2 := F30.out.c 0 2 rfl rfl; have f0_3 := F30.out.c 0 3 rfl rfl; have f0_4 := F30.out.c 0 4 rfl rfl; have f3_0 := F30.out.c 3 0 rfl rfl; have f3_1 := F30.out.c 3 1 rfl rfl; have f4_0 := F30.out.c 4 0 rfl rfl; have f4_1 := F30.out.c 4 1 rfl rfl) | (go_at_call_of 13 (Value.agg #[.slice a10 xsB.length c10, .slice b10 ysB.length d10]); refine (HEB.out _ (F30.out.li 6 (k := .i64) (xs := xsB) rfl HW3.out) (F30.out.li 7 (k := .i64) (xs := ysB) rfl HW4.out) (F30.out.lw 2 rfl) (F30.out.lw 3 rfl)).mono ?_; rintro e w31 ⟨rfl, hb⟩; have F31 := Lib.hid (F30.out.next hb); clear hb F30 f0_0 f0_1 f0_2 f0_3 f0_4 f3_0 f3_1 f4_0 f4_1) | fail)
                      go_roundw
                      case rel => exact ⟨k + 1, by omega, by go_num, HB.out.trans (F31.out.bel.mono HB.out.size)⟩
                      case measure => simp [intOf]; omega
    · have HB := Lib.hid hbel
      clear hbel h
      have WK := fun W => Lib.hid (wakes10_any W)
      by_cases hlt : k < n
      · have hk15 : ¬ (k : Int) < 6 := by omega
        have hkn : (k : Int) < n := by omega
        go_wp2_with (go_at_call 14; refine ((WK _).out).mono ?_; rintro e w1 ⟨rfl, hb⟩; have HW1 := Lib.hid hb; clear hb)
        go_ret
        exact ⟨rfl, HB.out.trans (HW1.out.mono HB.out.size)⟩
      · obtain rfl : k = n := by omega
        go_wp2_with (go_at_call 14; refine ((WK _).out).mono ?_; rintro e w1 ⟨rfl, hb⟩; have HW1 := Lib.hid hb; clear hb)
        go_ret
        exact ⟨rfl, HB.out.trans (HW1.out.mono HB.out.size)⟩
end Go.Proofs.YtddhhfhammmaaaaGreat
