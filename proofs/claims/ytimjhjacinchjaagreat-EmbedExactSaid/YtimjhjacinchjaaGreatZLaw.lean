/- The law EmbedExact, walked. -/
import Derived.Test.YtimjhjacinchjaaGreatZAll
set_option linter.unusedVariables false
set_option linter.unusedSimpArgs false
namespace Go.Proofs.YtimjhjacinchjaaGreat
open Go.RowKit Go.Rt
theorem frNe {lo : Nat} {w wr : World} {B : List (Nat × List Value)} {I : List (IntKind × Option Addr × List Int)} {O : List Row} {M : List (Nat × Obj)} (h : Fr lo w wr B I O M) (i j : Nat) (hij : i < j) {q r : Row} (hi : O[i]? = some q) (hj : O[j]? = some r) : ∀ g, q.v.ownBlock = some g → r.v.ownBlock ≠ some g := by
  obtain ⟨h1, e1⟩ := List.getElem?_eq_some_iff.1 hi
  obtain ⟨h2, e2⟩ := List.getElem?_eq_some_iff.1 hj
  have := List.pairwise_iff_getElem.1 h.apO i j h1 h2 hij
  rw [e1, e2] at this
  exact this
theorem heavyE_no {n m i k : Nat} (h : heavyE n m i k = false) : m ≤ 40 ∧ n ≤ 8 ∧ i ≤ 60 ∧ k ≤ 100 := by
  unfold heavyE at h
  simp only [Bool.or_eq_false_iff, decide_eq_false_iff_not] at h
  omega
theorem embE_yes {xs ids : List Int} (h : embE xs ids = 0) : xs.length = 2 ∧ (∀ k ∈ ids, 0 ≤ k ∧ k < xs[0]?.getD 0) ∧ goodB [(ids.length : Int), xs[1]?.getD 0] = true := by
  unfold embE at h
  split at h
  · next hc =>
    simp only [Bool.and_eq_true, decide_eq_true_eq] at hc
    split at h
    · exact ⟨hc.1, idsB_iff.1 hc.2.2, by assumption⟩
    · exact absurd h (by decide)
  · exact absurd h (by decide)
theorem embX_ok {xs ids : List Int} (hi : ids.length ≤ 60) : (∀ v ∈ embX xs ids, (Lit.int .i64 v).wf = true) ∧ (embX xs ids).length ≤ 2 := by
  unfold embX
  split
  · next h =>
    have hg := goodB_dims (embE_yes h).2.2
    refine ⟨fun v hv => ?_, by simp⟩
    have := hg v hv
    exact wf_i64_iff.2 ⟨by omega, by omega⟩
  · exact ⟨by simp, by simp⟩
theorem embY_ok {xs ys ids : List Int} (hi : ids.length ≤ 60) (hy : ys.length ≤ 40) (hw : ∀ v ∈ ys, (Lit.int .i64 v).wf = true) : (∀ v ∈ embY xs ys ids, (Lit.int .i64 v).wf = true) ∧ (embY xs ys ids).length ≤ 2400 := by
  unfold embY
  split
  · refine ⟨fun v hv => ?_, ?_⟩
    · unfold rowsY at hv
      obtain ⟨k, _, hv⟩ := List.mem_flatMap.1 hv
      exact hw v (List.mem_of_mem_drop (List.mem_of_mem_take hv))
    · unfold rowsY
      rw [List.length_flatMap]
      have : ∀ l : List Int, (l.map fun k => (rowOf (xs[1]?.getD 0).toNat ys k).length).sum ≤ l.length * 40 := fun l => by
        induction l with
        | nil => simp
        | cons k l ih =>
          simp only [List.map_cons, List.sum_cons, List.length_cons]
          have : (rowOf (xs[1]?.getD 0).toNat ys k).length ≤ 40 := by unfold rowOf; rw [List.length_take, List.length_drop]; omega
          omega
      have := this ids
      omega
  · exact ⟨by simp, by simp⟩
theorem er_ok {xs ys ids : List Int} (hi : ids.length ≤ 60) (hy : ys.length ≤ 40) (hw : ∀ v ∈ ys, (Lit.int .i64 v).wf = true) : (∀ v ∈ erX xs ys ids, (Lit.int .i64 v).wf = true) ∧ (erX xs ys ids).length ≤ 100000 ∧ (∀ v ∈ erY xs ys ids, (Lit.int .i64 v).wf = true) ∧ (erY xs ys ids).length ≤ 100000 ∧ (erZ xs ys ids ≠ 0 → erX xs ys ids = [] ∧ erY xs ys ids = []) := by
  have h1 := embX_ok (xs := xs) hi
  have h2 := embY_ok (xs := xs) hi hy hw
  unfold erX erY erZ
  split
  · exact ⟨h1.1, by omega, h2.1, by omega, fun hz => ⟨by unfold embX; rw [if_neg hz], by unfold embY; rw [if_neg hz]⟩⟩
  · exact ⟨by simp, by simp, by simp, by simp, fun _ => ⟨rfl, rfl⟩⟩
theorem ed_ok {xs ys ms : List Int} {x f : Int} (hx : xs.length ≤ 8) (hy : ys.length ≤ 40) (hw : ∀ v ∈ xs, (Lit.int .i64 v).wf = true) : (∀ v ∈ edX xs ys ms x f, (Lit.int .i64 v).wf = true) ∧ (edX xs ys ms x f).length ≤ 100000 ∧ (∀ v ∈ edY xs ys ms x f, (Lit.int .i64 v).wf = true) ∧ (edY xs ys ms x f).length ≤ 100000 ∧ (edZ xs ys ms x f ≠ 0 → edX xs ys ms x f = [] ∧ edY xs ys ms x f = []) := by
  unfold edX edY edZ
  split
  · refine ⟨?_, ?_, ?_, ?_, fun hz => ⟨by unfold dropX; rw [if_neg hz], by unfold dropY; rw [if_neg hz]⟩⟩
    · unfold dropX; split
      · exact hw
      · simp
    · unfold dropX; split
      · omega
      · simp
    · unfold dropY; split
      · next h =>
        unfold dropE at h
        intro v hv
        obtain ⟨i, hi, rfl⟩ := List.mem_map.1 hv
        split at h
        · split at h
          · next hall => exact word_wf (List.all_eq_true.1 hall i hi)
          · exact absurd h (by decide)
        · exact absurd h (by decide)
      · simp
    · unfold dropY; split
      · simp; omega
      · simp
  · exact ⟨by simp, by simp, by simp, by simp, fun _ => ⟨rfl, rfl⟩⟩
set_option maxRecDepth 100000 in
set_option maxHeartbeats 8000000 in
theorem embedExact_any (q : Option Addr) (n c0 : Nat) (w : World) (h : AsksAt w w.heap.size q n) :
    Calls Tryz.prog 3 #[.slice q n c0] w fun e w' => e = .returned (.bool true) ∧ Below w.heap.size w w' := by
  have hm := h.len
  go_enter Tryz.func3, Tryz.ntmps3
  go_wp2_with fail
  go_loopw [3] (fun i wr => ∃ k : Nat, k ≤ n ∧ i = .int .i64 k ∧ Below w.heap.size w wr) (fun i _ => n - (intOf i).toNat)
  case atStart => exact ⟨0, Nat.zero_le _, rfl, Below.refl _ _⟩
  case round =>
    obtain ⟨k, hk, rfl, hbel⟩ := hrel
    obtain ⟨wo, rfl⟩ : ∃ wo : World, wo = wr := ⟨_, rfl⟩
    by_cases hend : k < n ∧ k < 10
    · obtain ⟨hlt, h20⟩ := hend
      obtain ⟨b0, o_, ⟨a, c, b, d, xs, ys⟩, ⟨ai, ci, am, cm, ids, ms⟩, x, f, rfl, ht⟩ := h.at_ k hlt
      replace ht := ht.below hbel
      have hsz := hbel.size
      have HB := Lib.hid hbel
      have tA := ht.tA
      have tB := ht.tB
      dsimp only at tA tB
      have hl1 := tA.sh.len
      have hl2 := tA.da.len
      have hl3 := tB.sh.len
      have hl4 := tB.da.len
      clear hbel h
      have HI0 := Lib.hid (tA.sh.mono hsz)
      have HI1 := Lib.hid (tA.da.mono hsz)
      have HI2 := Lib.hid (tB.sh.mono hsz)
      have HI3 := Lib.hid (tB.da.mono hsz)
      have HC1 := Lib.hid (And.intro tA.c1 tA.c2)
      have HC2 := Lib.hid (And.intro tA.d1 tA.d2)
      have hhv := fun W => heavy17_any a b ai am xs.length c ys.length d ids.length ci ms.length cm x f W hl1 hl2
      have q0 := ht.c0
      have q1 := ht.c1
      have q2 := ht.c2
      have q3 := ht.c3
      have q4 := ht.c4
      have q5 := ht.c5
      dsimp only at q0 q1 q2 q3 q4 q5
      have HFB := Lib.hid (And.intro ht.f0 ht.f1)
      clear ht tA tB
      cases hv : heavyE xs.length ys.length ids.length ms.length with
      | true =>
        rw [hv] at hhv
        clear hv
        have F1 := Lib.hid ((Fr.start (w := wo) (I := [(.i64, a, xs), (.i64, b, ys), (.i64, ai, ids), (.i64, am, ms)]) (by intro z hz; simp at hz; rcases hz with rfl | rfl | rfl | rfl; exact HI0.out; exact HI1.out; exact HI2.out; exact HI3.out)).box1 (b := wo.heap.size) rfl [.slice a xs.length c, .slice b ys.length d, .slice ai ids.length ci, .slice am ms.length cm, .int .i64 x, .int .i64 f] 28)
        simp only [List.nil_append] at F1
        go_upto_region 5 with fail
        obtain ⟨W1, hW1⟩ : ∃ W1, wo.alloc (.cells #[.slice a xs.length c, .slice b ys.length d, .slice ai ids.length ci, .slice am ms.length cm, .int .i64 x, .int .i64 f] 28) = W1 := ⟨_, rfl⟩
        rw [hW1] at F1 ⊢
        clear hW1 q0 q1 q2 q3 q4 q5
        have c0_0 := F1.out.c 0 0 rfl rfl
        have c0_1 := F1.out.c 0 1 rfl rfl
        have c0_2 := F1.out.c 0 2 rfl rfl
        have c0_3 := F1.out.c 0 3 rfl rfl
        have c0_4 := F1.out.c 0 4 rfl rfl
        have c0_5 := F1.out.c 0 5 rfl rfl
        go_wp2_with (go_at_call 4; refine (hhv W1).mono ?_; rintro e w2 ⟨rfl, hb⟩; have F2 := Lib.hid (F1.out.next hb); clear hb)
        go_ret
        exact ⟨rfl, HB.out.trans (F2.out.bel.mono HB.out.size)⟩
      | false =>
        rw [hv] at hhv
        obtain ⟨g1, g2, g3, g4⟩ := heavyE_no hv
        clear hv
        have F1 := Lib.hid ((Fr.start (w := wo) (I := [(.i64, a, xs), (.i64, b, ys), (.i64, ai, ids), (.i64, am, ms)]) (by intro z hz; simp at hz; rcases hz with rfl | rfl | rfl | rfl; exact HI0.out; exact HI1.out; exact HI2.out; exact HI3.out)).box1 (b := wo.heap.size) rfl [.slice a xs.length c, .slice b ys.length d, .slice ai ids.length ci, .slice am ms.length cm, .int .i64 x, .int .i64 f] 28)
        simp only [List.nil_append] at F1
        go_upto_region 5 with fail
        obtain ⟨W1, hW1⟩ : ∃ W1, wo.alloc (.cells #[.slice a xs.length c, .slice b ys.length d, .slice ai ids.length ci, .slice am ms.length cm, .int .i64 x, .int .i64 f] 28) = W1 := ⟨_, rfl⟩
        rw [hW1] at F1 ⊢
        clear hW1 q0 q1 q2 q3 q4 q5
        have c0_0 := F1.out.c 0 0 rfl rfl
        have c0_1 := F1.out.c 0 1 rfl rfl
        have c0_2 := F1.out.c 0 2 rfl rfl
        have c0_3 := F1.out.c 0 3 rfl rfl
        have c0_4 := F1.out.c 0 4 rfl rfl
        have c0_5 := F1.out.c 0 5 rfl rfl
        go_upto_region 8 with (go_at_call 4; refine (hhv W1).mono ?_; rintro e w2 ⟨rfl, hb⟩; have F2 := Lib.hid (F1.out.next hb); clear hb F1 c0_0 c0_1 c0_2 c0_3 c0_4 c0_5; have d0_0 := F2.out.c 0 0 rfl rfl; have d0_1 := F2.out.c 0 1 rfl rfl; have d0_2 := F2.out.c 0 2 rfl rfl; have d0_3 := F2.out.c 0 3 rfl rfl; have d0_4 := F2.out.c 0 4 rfl rfl; have d0_5 := F2.out.c 0 5 rfl rfl)
        have hVA := fun (p q : Option Addr) (cp cq : Nat) W (h : Ints .i64 W W.heap.size p xs) (h2 : Ints .i64 W W.heap.size q ys) (h3 : Ints .i64 W W.heap.size ai ids) (h4 : xs.length ≤ cp ∧ cp ≤ 9223372036854775807) (h5 : ys.length ≤ cq ∧ cq ≤ 9223372036854775807) => embRows_all p q cp cq xs ys ai ci ids W h h2 h3 h4 h5
        have hVB := fun (p q : Option Addr) (cp cq : Nat) W (h : Ints .i64 W W.heap.size p xs) (h2 : Ints .i64 W W.heap.size q ys) (h3 : Ints .i64 W W.heap.size am ms) (h4 : xs.length ≤ cp ∧ cp ≤ 9223372036854775807) (h5 : ys.length ≤ cq ∧ cq ≤ 9223372036854775807) => embDrop_all p q cp cq xs ys am cm ms x f W h h2 h3 h4 h5
        have HXW := Lib.hid HI0.out.wf
        have HYW := Lib.hid HI1.out.wf
        have okA := er_ok (xs := xs) (ids := ids) (ys := ys) g3 g1 HI1.out.wf
        have okB := ed_ok (ys := ys) (ms := ms) (x := x) (f := f) g2 g1 HI0.out.wf
        obtain ⟨AZ, hAZ⟩ : ∃ z, erZ xs ys ids = z := ⟨_, rfl⟩
        obtain ⟨AX, hAX⟩ : ∃ z, erX xs ys ids = z := ⟨_, rfl⟩
        obtain ⟨AY, hAY⟩ : ∃ z, erY xs ys ids = z := ⟨_, rfl⟩
        rw [hAZ, hAX, hAY] at hVA okA
        obtain ⟨o1, o2, o3, o4, o5⟩ := okA
        have HVA := Lib.hid hVA
        have EAZ := Lib.hid hAZ
        have EAX := Lib.hid hAX
        have EAY := Lib.hid hAY
        have HWAX := Lib.hid o1
        have HLAX := Lib.hid o2
        have HWAY := Lib.hid o3
        have HLAY := Lib.hid o4
        have HNA := Lib.hid o5
        clear hVA hAZ hAX hAY o1 o2 o3 o4 o5
        obtain ⟨BZ, hBZ⟩ : ∃ z, edZ xs ys ms x f = z := ⟨_, rfl⟩
        obtain ⟨BX, hBX⟩ : ∃ z, edX xs ys ms x f = z := ⟨_, rfl⟩
        obtain ⟨BY, hBY⟩ : ∃ z, edY xs ys ms x f = z := ⟨_, rfl⟩
        rw [hBZ, hBX, hBY] at hVB okB
        obtain ⟨o1, o2, o3, o4, o5⟩ := okB
        have HVB := Lib.hid hVB
        have EBZ := Lib.hid hBZ
        have EBX := Lib.hid hBX
        have EBY := Lib.hid hBY
        have HWBX := Lib.hid o1
        have HLBX := Lib.hid o2
        have HWBY := Lib.hid o3
        have HLBY := Lib.hid o4
        have HNB := Lib.hid o5
        clear hVB hBZ hBX hBY o1 o2 o3 o4 o5
        have htm := fun W (h : Ints .i64 W W.heap.size a xs) (h2 : Ints .i64 W W.heap.size b ys) => tenMay_any a b c d xs ys W h h2
        obtain ⟨tb, htb⟩ : ∃ t, tenB xs ys = t := ⟨_, rfl⟩
        rw [htb] at htm
        have HTB := Lib.hid htb
        have HTM := Lib.hid htm
        clear htb htm
        obtain ⟨A0, hA0⟩ : ∃ z : Int, (if tb = true then 0 else 1) = z := ⟨_, rfl⟩
        have EA0 := Lib.hid hA0
        clear hA0
        go_upto_if 31 with (go_at_call 5; refine (HTM.out _ (F2.out.lw 0 rfl) (F2.out.lw 1 rfl)).mono ?_; rintro e w3 ⟨rfl, hb⟩; have F3 := Lib.hid (F2.out.next hb); clear hb F2 d0_0 d0_1 d0_2 d0_3 d0_4 d0_5)
        go_cut [5] from 31 to 31 (fun s5 wx => s5 = .int .i64 A0 ∧ wx = w3)
        case first =>
          cases tb with
          | true =>
            have hz : A0 = 0 := by rw [← EA0.out]; rfl
            go_wp2
            go_meet
            exact ⟨by rw [hz], rfl⟩
          | false =>
            have hz : A0 = 1 := by rw [← EA0.out]; rfl
            go_wp2
            go_meet
            exact ⟨by rw [hz], rfl⟩
        case rest =>
          obtain ⟨rfl, rfl⟩ := hcut
          have HMF := Lib.hid (fun W => rmayF_any f W)
          have HMW := Lib.hid (fun W => ref2May_any x W)
          have hmf := HMF.out
          have hmw := HMW.out
          have hfo : (decide (8 ≤ f) && decide (f ≤ 32)) = fOk f := rfl
          simp only [hfo] at hmf
          obtain ⟨fb, hfb⟩ : ∃ t, fOk f = t := ⟨_, rfl⟩
          obtain ⟨xb, hxb⟩ : ∃ t, isW x = t := ⟨_, rfl⟩
          rw [hfb] at hmf
          rw [hxb] at hmw
          have HMF2 := Lib.hid hmf
          have HMW2 := Lib.hid hmw
          have HFB2 := Lib.hid hfb
          have HXB2 := Lib.hid hxb
          clear HMF HMW hmf hmw hfo hfb hxb
          obtain ⟨B0, hB0⟩ : ∃ z : Int, (if (tb && (fb && xb)) = true then 0 else 1) = z := ⟨_, rfl⟩
          have EB0 := Lib.hid hB0
          clear hB0
          have d0_0 := F3.out.c 0 0 rfl rfl
          have d0_1 := F3.out.c 0 1 rfl rfl
          have d0_2 := F3.out.c 0 2 rfl rfl
          have d0_3 := F3.out.c 0 3 rfl rfl
          have d0_4 := F3.out.c 0 4 rfl rfl
          have d0_5 := F3.out.c 0 5 rfl rfl
          go_upto_region 11 with fail
          obtain ⟨w4, rfl⟩ : ∃ z : World, z = wc := ⟨_, rfl⟩
          go_cut [42] from 33 to 42 (fun s42 wx => s42 = .bool (!(fb && xb)) ∧ wx = w4)
          case first =>
            cases fb with
            | false =>
              go_wp2_with (first | (go_at_call 6; refine (HMF2.out _).mono ?_; rintro e w' ⟨rfl, rfl⟩) | (go_at_call 7; refine (HMW2.out _).mono ?_; rintro e w' ⟨rfl, rfl⟩))
              go_meet
              exact ⟨rfl, rfl⟩
            | true =>
              cases xb with
              | false =>
                go_wp2_with (first | (go_at_call 6; refine (HMF2.out _).mono ?_; rintro e w' ⟨rfl, rfl⟩) | (go_at_call 7; refine (HMW2.out _).mono ?_; rintro e w' ⟨rfl, rfl⟩))
                go_meet
                exact ⟨rfl, rfl⟩
              | true =>
                go_wp2_with (first | (go_at_call 6; refine (HMF2.out _).mono ?_; rintro e w' ⟨rfl, rfl⟩) | (go_at_call 7; refine (HMW2.out _).mono ?_; rintro e w' ⟨rfl, rfl⟩))
                go_meet
                exact ⟨rfl, rfl⟩
          case rest =>
            obtain ⟨rfl, rfl⟩ := hcut
            go_upto_if 42 with fail
            go_cut [6] from 42 to 42 (fun s6 wx => s6 = .int .i64 B0 ∧ wx = wc)
            case first =>
              cases hfx : (fb && xb) with
              | true =>
                have hz : B0 = A0 := by rw [← EB0.out, ← EA0.out, hfx]; cases tb <;> rfl
                skip
                go_wp2
                go_meet
                exact ⟨by rw [hz], rfl⟩
              | false =>
                have hz : B0 = 1 := by rw [← EB0.out, hfx]; cases tb <;> rfl
                go_wp2
                go_meet
                exact ⟨by rw [hz], rfl⟩
            case rest =>
              obtain ⟨rfl, rfl⟩ := hcut
              go_upto_region 13 with fail
              obtain ⟨w5, rfl⟩ : ∃ z : World, z = wc := ⟨_, rfl⟩
              obtain ⟨S6, hS6⟩ : ∃ z, w5.heap.size = z := ⟨_, rfl⟩
              have F6 := Lib.hid ((F3.out.box1 (b := S6) (by simp [hS6]) [.slice none 0 0, .slice none 0 0] 26).box1 (b := S6 + 1) (by simp [hS6]) [.slice none 0 0, .slice none 0 0] 26)
              simp only [List.nil_append, List.cons_append] at F6
              go_upto_region 14 with fail
              (try simp only [hS6])
              obtain ⟨W6, hW6⟩ : ∃ z, ((w5.alloc (.cells #[.slice none 0 0, .slice none 0 0] 26)).alloc (.cells #[.slice none 0 0, .slice none 0 0] 26)) = z := ⟨_, rfl⟩
              rw [hW6] at F6 ⊢
              clear hW6 F3 d0_0 d0_1 d0_2 d0_3 d0_4 d0_5
              obtain ⟨Y7, hY7⟩ : ∃ z, S6 = z := ⟨_, rfl⟩
              obtain ⟨Y8, hY8⟩ : ∃ z, S6 + 1 = z := ⟨_, rfl⟩
              rw [hY8, hY7] at F6 ⊢
              clear hS6 hY7 hY8
              go_upto_if 44 with fail
              go_cut [5] from 45 to 52 (fun s9 wx => s9 = .int .i64 AZ ∧ ∃ a7 c7 b7 d7, Hid (Fr wo.heap.size wo wx [(wo.heap.size, [.slice a xs.length c, .slice b ys.length d, .slice ai ids.length ci, .slice am ms.length cm, .int .i64 x, .int .i64 f]), (Y7, [.slice a7 AX.length c7, .slice b7 AY.length d7]), (Y8, [.slice none 0 0, .slice none 0 0])] [(.i64, a, xs), (.i64, b, ys), (.i64, ai, ids), (.i64, am, ms)] [⟨3, .slice a7 AX.length c7, AX.length, AX.map (Value.int .i64)⟩, ⟨2, .slice b7 AY.length d7, AY.length, AY.map (Value.int .i64)⟩] []))
              case first =>
                by_cases htb : tb = true
                · skip
                  subst htb
                  obtain rfl : A0 = 0 := by rw [← EA0.out]; rfl
                  have hrt := fun W (h : Ints .i64 W W.heap.size a xs) (h2 : Ints .i64 W W.heap.size b ys) (h3 : Ints .i64 W W.heap.size ai ids) => rrows_any a b ai c d ci xs ys ids W h h2 h3 HC2.out (by omega) HTB.out
                  rw [show embX xs ids = AX by rw [← EAX.out]; unfold erX; rw [if_pos HTB.out], show embY xs ys ids = AY by rw [← EAY.out]; unfold erY; rw [if_pos HTB.out], show embE xs ids = AZ by rw [← EAZ.out]; unfold erZ; rw [if_pos HTB.out]] at hrt
                  have HRT := Lib.hid hrt
                  clear hrt
                  have d0_0 := F6.out.c 0 0 rfl rfl
                  have d0_1 := F6.out.c 0 1 rfl rfl
                  have d0_2 := F6.out.c 0 2 rfl rfl
                  have d0_3 := F6.out.c 0 3 rfl rfl
                  have d0_4 := F6.out.c 0 4 rfl rfl
                  have d0_5 := F6.out.c 0 5 rfl rfl
                  go_wp2_with (go_at_call 8; refine (HRT.out _ (F6.out.lw 0 rfl) (F6.out.lw 1 rfl) (F6.out.lw 2 rfl)).mono ?_; rintro e wz ⟨a7, c7, b7, d7, rfl, hf⟩; have FZ := Lib.hid (F6.out.join hf); simp only [List.cons_append, List.nil_append] at FZ; clear hf F6 d0_0 d0_1 d0_2 d0_3 d0_4 d0_5; have z1_0 := FZ.out.c 1 0 rfl rfl; have z1_1 := FZ.out.c 1 1 rfl rfl; have zf1_0 := FZ.out.f 1 0 rfl rfl; have zf1_1 := FZ.out.f 1 1 rfl rfl)
                  go_meet
                  exact ⟨rfl, a7, c7, b7, d7, Lib.hid (by have := FZ.out.set 1 rfl (by simp) [.slice a7 AX.length c7, .slice b7 AY.length d7] rfl; simpa only [setL, Nat.reduceAdd, List.set_cons_zero, List.set_cons_succ, List.cons_append, List.nil_append] using this)⟩
                · skip
                  have htf : tb = false := by simpa using htb
                  subst htf
                  obtain rfl : A0 = 1 := by rw [← EA0.out]; rfl
                  have hz1 : AZ = 1 := by rw [← EAZ.out]; unfold erZ; rw [HTB.out]; rfl
                  have HZ1 := Lib.hid hz1
                  clear hz1 htb
                  go_wp2
                  go_meet
                  have n1 := HNA.out (by rw [HZ1.out]; decide)
                  exact ⟨by rw [HZ1.out], none, 0, none, 0, Lib.hid (by rw [n1.1, n1.2]; have h9 := (F6.out.addNil 3).addNil 2; simpa only [List.append_assoc, List.cons_append, List.nil_append, List.map_nil, List.length_nil] using h9)⟩
              case rest =>
                obtain ⟨rfl, a7, c7, b7, d7, F7⟩ := hcut
                clear F6
                go_upto_if 54 with fail
                go_cut [6] from 55 to 66 (fun s9 wx => s9 = .int .i64 BZ ∧ ∃ a8 c8 b8 d8, Hid (Fr wo.heap.size wo wx [(wo.heap.size, [.slice a xs.length c, .slice b ys.length d, .slice ai ids.length ci, .slice am ms.length cm, .int .i64 x, .int .i64 f]), (Y7, [.slice a7 AX.length c7, .slice b7 AY.length d7]), (Y8, [.slice a8 BX.length c8, .slice b8 BY.length d8])] [(.i64, a, xs), (.i64, b, ys), (.i64, ai, ids), (.i64, am, ms)] [⟨3, .slice a7 AX.length c7, AX.length, AX.map (Value.int .i64)⟩, ⟨2, .slice b7 AY.length d7, AY.length, AY.map (Value.int .i64)⟩, ⟨3, .slice a8 BX.length c8, BX.length, BX.map (Value.int .i64)⟩, ⟨2, .slice b8 BY.length d8, BY.length, BY.map (Value.int .i64)⟩] []))
                case first =>
                  by_cases htb : (tb && (fb && xb)) = true
                  · skip
                    obtain rfl : B0 = 0 := by rw [← EB0.out, htb]; rfl
                    have hed : edB xs ys x f = true := by unfold edB; rw [HTB.out, HFB2.out, HXB2.out]; exact htb
                    have hed2 := hed
                    unfold edB fOk at hed2
                    simp only [Bool.and_eq_true, decide_eq_true_eq] at hed2
                    obtain ⟨e1, ⟨e2, e3⟩, e4⟩ := hed2
                    obtain ⟨fn, hfn⟩ : ∃ z : Nat, f = z := ⟨f.toNat, by omega⟩
                    have htn : f.toNat = fn := by omega
                    have hrt := fun W (h : Ints .i64 W W.heap.size a xs) (h2 : Ints .i64 W W.heap.size b ys) (h3 : Ints .i64 W W.heap.size am ms) => rdrop_any a b am c d cm fn xs ys ms x W h h2 h3 e1 e4 (by omega)
                    rw [show dropX xs ys ms x fn = BX by rw [← EBX.out]; unfold edX; rw [if_pos hed, htn], show dropY ys ms x fn = BY by rw [← EBY.out]; unfold edY; rw [if_pos hed, htn], show dropE ys ms x fn = BZ by rw [← EBZ.out]; unfold edZ; rw [if_pos hed, htn], ← hfn] at hrt
                    have HRT := Lib.hid hrt
                    clear hrt hed e1 e2 e3 e4 hfn htn htb
                    have d0_0 := F7.out.c 0 0 rfl rfl
                    have d0_1 := F7.out.c 0 1 rfl rfl
                    have d0_2 := F7.out.c 0 2 rfl rfl
                    have d0_3 := F7.out.c 0 3 rfl rfl
                    have d0_4 := F7.out.c 0 4 rfl rfl
                    have d0_5 := F7.out.c 0 5 rfl rfl
                    go_wp2_with (go_at_call 9; refine (HRT.out _ (F7.out.lw 0 rfl) (F7.out.lw 1 rfl) (F7.out.lw 3 rfl)).mono ?_; rintro e wz ⟨a8, c8, b8, d8, rfl, hf⟩; have FZ := Lib.hid (F7.out.join hf); simp only [List.cons_append, List.nil_append] at FZ; clear hf F7 d0_0 d0_1 d0_2 d0_3 d0_4 d0_5; have z2_0 := FZ.out.c 2 0 rfl rfl; have z2_1 := FZ.out.c 2 1 rfl rfl; have zf2_0 := FZ.out.f 2 0 rfl rfl; have zf2_1 := FZ.out.f 2 1 rfl rfl)
                    go_meet
                    exact ⟨rfl, a8, c8, b8, d8, Lib.hid (by have := FZ.out.set 2 rfl (by simp) [.slice a8 BX.length c8, .slice b8 BY.length d8] rfl; simpa only [setL, Nat.reduceAdd, List.set_cons_zero, List.set_cons_succ, List.cons_append, List.nil_append] using this)⟩
                  · skip
                    have htf : (tb && (fb && xb)) = false := by simpa using htb
                    obtain rfl : B0 = 1 := by rw [← EB0.out, htf]; rfl
                    have hz1 : BZ = 1 := by rw [← EBZ.out]; unfold edZ edB; rw [HTB.out, HFB2.out, HXB2.out, htf]; rfl
                    have HZ1 := Lib.hid hz1
                    clear hz1 htb htf
                    go_wp2
                    go_meet
                    have n1 := HNB.out (by rw [HZ1.out]; decide)
                    exact ⟨by rw [HZ1.out], none, 0, none, 0, Lib.hid (by rw [n1.1, n1.2]; have h9 := (F7.out.addNil 3).addNil 2; simpa only [List.append_assoc, List.cons_append, List.nil_append, List.map_nil, List.length_nil] using h9)⟩
                case rest =>
                  obtain ⟨rfl, a8, c8, b8, d8, F8⟩ := hcut
                  clear F7
                  have hcv := fun W (h : Ints .i64 W W.heap.size a xs) (h2 : Ints .i64 W W.heap.size b ys) => copyTen_any a b c d xs ys W h h2 (by omega) (by omega)
                  have d0_0 := F8.out.c 0 0 rfl rfl
                  have d0_1 := F8.out.c 0 1 rfl rfl
                  have d0_2 := F8.out.c 0 2 rfl rfl
                  have d0_3 := F8.out.c 0 3 rfl rfl
                  have d0_4 := F8.out.c 0 4 rfl rfl
                  have d0_5 := F8.out.c 0 5 rfl rfl
                  go_upto_region 19 with (go_at_call 10; refine (hcv _ (F8.out.lw 0 rfl) (F8.out.lw 1 rfl)).mono ?_; rintro e w9 ⟨a9, c9, b9, d9, rfl, hf⟩; have F9 := Lib.hid (F8.out.join hf); simp only [List.cons_append, List.nil_append] at F9; clear hf F8 d0_0 d0_1 d0_2 d0_3 d0_4 d0_5)
                  obtain ⟨Y9, hY9⟩ : ∃ x, w9.heap.size = x := ⟨_, rfl⟩
                  rw [hY9]
                  have F10 := Lib.hid (F9.out.box1 (b := Y9) hY9 [.slice a9 xs.length c9, .slice b9 ys.length d9] 26)
                  simp only [List.nil_append, List.cons_append] at F10
                  obtain ⟨W10, hW10⟩ : ∃ x, (w9.alloc (.cells #[.slice a9 xs.length c9, .slice b9 ys.length d9] 26)) = x := ⟨_, rfl⟩
                  rw [hW10] at F10 ⊢
                  clear hW10 hY9 F9
                  have HK1 := Lib.hid (own_cap (F10.out.r 4 rfl))
                  have HK2 := Lib.hid (own_cap (F10.out.r 5 rfl))
                  clear hcv
                  have d0_0 := F10.out.c 0 0 rfl rfl
                  have d0_1 := F10.out.c 0 1 rfl rfl
                  have d0_2 := F10.out.c 0 2 rfl rfl
                  have d0_3 := F10.out.c 0 3 rfl rfl
                  have d0_4 := F10.out.c 0 4 rfl rfl
                  have d0_5 := F10.out.c 0 5 rfl rfl
                  have d3_0 := F10.out.c 3 0 rfl rfl
                  have d3_1 := F10.out.c 3 1 rfl rfl
                  go_upto_region 20 with (go_at_call 11; refine (HVA.out a9 b9 c9 d9 _ (F10.out.li 4 (k := .i64) (xs := xs) rfl HXW.out) (F10.out.li 5 (k := .i64) (xs := ys) rfl HYW.out) (F10.out.lw 2 rfl) HK1.out HK2.out).mono ?_; rintro e wa0 ⟨xa, xc, ya, yd, rfl, hf⟩; have Fa0 := Lib.hid (F10.out.join hf); simp only [List.cons_append, List.nil_append] at Fa0; clear hf F10 d0_0 d0_1 d0_2 d0_3 d0_4 d0_5 d3_0 d3_1)
                  obtain ⟨Y10, hY10⟩ : ∃ x, wa0.heap.size = x := ⟨_, rfl⟩
                  rw [hY10]
                  have Fb0 := Lib.hid (Fa0.out.box1 (b := Y10) hY10 [.slice xa AX.length xc, .slice ya AY.length yd] 26)
                  simp only [List.nil_append, List.cons_append] at Fb0
                  obtain ⟨Wb0, hWb0⟩ : ∃ x, (wa0.alloc (.cells #[.slice xa AX.length xc, .slice ya AY.length yd] 26)) = x := ⟨_, rfl⟩
                  rw [hWb0] at Fb0 ⊢
                  clear hWb0 hY10 Fa0
                  have HIS := Lib.hid (is8_any xa ya a7 b7 xc yd c7 d7 wo.heap.size AX AY AX AY AZ AZ Wb0 (Fb0.out.r 6 rfl) (Fb0.out.r 7 rfl) (frNe Fb0.out 6 7 (by decide) rfl rfl) HLAX.out HLAY.out Fb0.out.hlo HWAX.out HWAY.out (Fb0.out.li 0 (k := .i64) (xs := AX) rfl HWAX.out) (Fb0.out.li 1 (k := .i64) (xs := AY) rfl HWAY.out) rfl (fun _ => ⟨rfl, rfl⟩) HNA.out)
                  have d4_0 := Fb0.out.c 4 0 rfl rfl
                  have d4_1 := Fb0.out.c 4 1 rfl rfl
                  have d1_0 := Fb0.out.c 1 0 rfl rfl
                  have d1_1 := Fb0.out.c 1 1 rfl rfl
                  go_upto_region 22 with (go_at_call 12; refine (HIS.out).mono ?_; rintro e wc0 ⟨rfl, U1, U2, hb1, hg2, hg3⟩; have Fd0 := Lib.hid (((Fb0.out.next hb1).spoil 6 rfl hg2).spoil 6 rfl hg3); simp only [List.eraseIdx_cons_succ, List.eraseIdx_cons_zero, List.eraseIdx_zero, List.tail_cons] at Fd0; clear hb1 hg2 hg3 HIS Fb0 d4_0 d4_1 d1_0 d1_1)
                  have d0_0 := Fd0.out.c 0 0 rfl rfl
                  have d0_1 := Fd0.out.c 0 1 rfl rfl
                  have d0_2 := Fd0.out.c 0 2 rfl rfl
                  have d0_3 := Fd0.out.c 0 3 rfl rfl
                  have d0_4 := Fd0.out.c 0 4 rfl rfl
                  have d0_5 := Fd0.out.c 0 5 rfl rfl
                  have d3_0 := Fd0.out.c 3 0 rfl rfl
                  have d3_1 := Fd0.out.c 3 1 rfl rfl
                  have d4_0 := Fd0.out.c 4 0 rfl rfl
                  have d4_1 := Fd0.out.c 4 1 rfl rfl
                  have df4_0 := Fd0.out.f 4 0 rfl rfl
                  have df4_1 := Fd0.out.f 4 1 rfl rfl
                  go_upto_region 23 with (go_at_call 13; refine (HVB.out a9 b9 c9 d9 _ (Fd0.out.li 4 (k := .i64) (xs := xs) rfl HXW.out) (Fd0.out.li 5 (k := .i64) (xs := ys) rfl HYW.out) (Fd0.out.lw 3 rfl) HK1.out HK2.out).mono ?_; rintro e wa1 ⟨xa, xc, ya, yd, rfl, hf⟩; have Fa1 := Lib.hid (Fd0.out.join hf); simp only [List.cons_append, List.nil_append] at Fa1; clear hf Fd0 d0_0 d0_1 d0_2 d0_3 d0_4 d0_5 d3_0 d3_1 d4_0 d4_1 df4_0 df4_1; have e4_0 := Fa1.out.c 4 0 rfl rfl; have e4_1 := Fa1.out.c 4 1 rfl rfl; have ef4_0 := Fa1.out.f 4 0 rfl rfl; have ef4_1 := Fa1.out.f 4 1 rfl rfl)
                  have Fb1 := Lib.hid (Fa1.out.set 4 rfl (by simp) [.slice xa BX.length xc, .slice ya BY.length yd] rfl)
                  simp only [List.set_cons_zero, List.set_cons_succ] at Fb1
                  obtain ⟨Wb1, hWb⟩ : ∃ x, setL wa1 Y10 0 [.slice xa BX.length xc, .slice ya BY.length yd] = x := ⟨_, rfl⟩
                  rw [hWb] at Fb1
                  simp only [setL, Nat.reduceAdd] at hWb
                  rw [hWb]
                  clear hWb Fa1 e4_0 e4_1 ef4_0 ef4_1
                  have HIS := Lib.hid (is8_any xa ya a8 b8 xc yd c8 d8 wo.heap.size BX BY BX BY BZ BZ Wb1 (Fb1.out.r 6 rfl) (Fb1.out.r 7 rfl) (frNe Fb1.out 6 7 (by decide) rfl rfl) HLBX.out HLBY.out Fb1.out.hlo HWBX.out HWBY.out (Fb1.out.li 2 (k := .i64) (xs := BX) rfl HWBX.out) (Fb1.out.li 3 (k := .i64) (xs := BY) rfl HWBY.out) rfl (fun _ => ⟨rfl, rfl⟩) HNB.out)
                  have d4_0 := Fb1.out.c 4 0 rfl rfl
                  have d4_1 := Fb1.out.c 4 1 rfl rfl
                  have d2_0 := Fb1.out.c 2 0 rfl rfl
                  have d2_1 := Fb1.out.c 2 1 rfl rfl
                  have hev := fun W (h1 : Ints .i64 W W.heap.size a9 xs) (h2 : Ints .i64 W W.heap.size b9 ys) (h3 : Ints .i64 W W.heap.size a xs) (h4 : Ints .i64 W W.heap.size b ys) => eqTensor_any a9 b9 a b c9 d9 c d xs ys xs ys W h1 h2 h3 h4
                  simp only [decide_true, Bool.and_true] at hev
                  have HEV := Lib.hid hev
                  clear hev
                  go_wp2_with (first | (go_at_call 12; refine (HIS.out).mono ?_; rintro e wc1 ⟨rfl, U1, U2, hb1, hg2, hg3⟩; have Fd1 := Lib.hid (((Fb1.out.next hb1).spoil 6 rfl hg2).spoil 6 rfl hg3); simp only [List.eraseIdx_cons_succ, List.eraseIdx_cons_zero, List.eraseIdx_zero, List.tail_cons] at Fd1; clear hb1 hg2 hg3 HIS Fb1 d4_0 d4_1 d2_0 d2_1; have f0_0 := Fd1.out.c 0 0 rfl rfl; have f0_1 := Fd1.out.c 0 1 rfl rfl; have f0_2 := Fd1.out.c 0 2 rfl rfl; have f0_3 := Fd1.out.c 0 3 rfl rfl; have f0_4 := Fd1.out.c 0 4 rfl rfl; have f0_5 := Fd1.out.c 0 5 rfl rfl; have f3_0 := Fd1.out.c 3 0 rfl rfl; have f3_1 := Fd1.out.c 3 1 rfl rfl) | (go_at_call 14; refine (HEV.out _ (Fd1.out.li 4 (k := .i64) (xs := xs) rfl HXW.out) (Fd1.out.li 5 (k := .i64) (xs := ys) rfl HYW.out) (Fd1.out.lw 0 rfl) (Fd1.out.lw 1 rfl)).mono ?_; rintro e w30 ⟨rfl, hb⟩; have F30 := Lib.hid (Fd1.out.next hb); clear hb Fd1 f0_0 f0_1 f0_2 f0_3 f0_4 f0_5 f3_0 f3_1) | fail)
                  go_roundw
                  case rel => exact ⟨k + 1, by omega, by go_num, HB.out.trans (F30.out.bel.mono HB.out.size)⟩
                  case measure => simp [intOf]; omega
    · have HB := Lib.hid hbel
      clear hbel h
      have WK := fun W => Lib.hid (wakes17_any W)
      by_cases hlt : k < n
      · have hk15 : ¬ (k : Int) < 10 := by omega
        have hkn : (k : Int) < n := by omega
        go_wp2_with (go_at_call 15; refine ((WK _).out).mono ?_; rintro e w1 ⟨rfl, hb⟩; have HW1 := Lib.hid hb; clear hb)
        go_ret
        exact ⟨rfl, HB.out.trans (HW1.out.mono HB.out.size)⟩
      · obtain rfl : k = n := by omega
        go_wp2_with (go_at_call 15; refine ((WK _).out).mono ?_; rintro e w1 ⟨rfl, hb⟩; have HW1 := Lib.hid hb; clear hb)
        go_ret
        exact ⟨rfl, HB.out.trans (HW1.out.mono HB.out.size)⟩
end Go.Proofs.YtimjhjacinchjaaGreat
