/- The law ReduceExact, walked. -/
import Derived.Test.YtinboddfmojodaaGreatRxM
import Derived.Test.YtinboddfmojodaaGreatRxS
import Derived.Test.YtinboddfmojodaaGreatRdG
set_option linter.unusedVariables false
set_option linter.unusedSimpArgs false
namespace Go.Proofs.YtinboddfmojodaaGreat
open Go.RowKit Go.Rt
theorem frNe {lo : Nat} {w wr : World} {B : List (Nat × List Value)} {I : List (IntKind × Option Addr × List Int)} {O : List Row} {M : List (Nat × Obj)} (h : Fr lo w wr B I O M) (i j : Nat) (hij : i < j) {q r : Row} (hi : O[i]? = some q) (hj : O[j]? = some r) : ∀ g, q.v.ownBlock = some g → r.v.ownBlock ≠ some g := by
  obtain ⟨h1, e1⟩ := List.getElem?_eq_some_iff.1 hi
  obtain ⟨h2, e2⟩ := List.getElem?_eq_some_iff.1 hj
  have := List.pairwise_iff_getElem.1 h.apO i j h1 h2 hij
  rw [e1, e2] at this
  exact this
theorem sm_ok (m : Bool) (xs ys axes : List Int) : (∀ v ∈ smX m xs ys axes, (Lit.int .i64 v).wf = true) ∧ (smX m xs ys axes).length ≤ 100000 ∧ (∀ v ∈ smY m xs ys axes, (Lit.int .i64 v).wf = true) ∧ (smY m xs ys axes).length ≤ 100000 ∧ (smZ m xs ys axes ≠ 0 → smX m xs ys axes = [] ∧ smY m xs ys axes = []) := by
  have hw := sm_wf m xs ys axes
  by_cases hz : smZ m xs ys axes = 0
  · have hck : ckZ xs ys axes = 0 := by
      by_cases h : ckZ xs ys axes = 0
      · exact h
      · have h2 := hz
        unfold smZ at h2
        rwa [if_neg h] at h2
    obtain ⟨ht, _⟩ := ckZ_ok hck
    have hg := restL_good (axes := axes) (tenB_iff.1 ht).1
    have b := sm_bounds axes ht
    have hx4 := (goodB_iff.1 hg).1
    refine ⟨hw.1, ?_, hw.2, ?_, fun h => absurd hz h⟩
    · unfold smX; rw [hz, zL_0]; omega
    · unfold smY; rw [hz, zL_0, List.length_map, List.length_range]; omega
  · have e1 : smX m xs ys axes = [] := by unfold smX; exact zL_ne _ hz
    have e2 : smY m xs ys axes = [] := by unfold smY; exact zL_ne _ hz
    rw [e1, e2]
    exact ⟨by simp, by simp, by simp, by simp, fun _ => ⟨rfl, rfl⟩⟩
theorem mx_ok (xs ys : List Int) (x : Int) : (∀ v ∈ mxX xs ys x, (Lit.int .i64 v).wf = true) ∧ (mxX xs ys x).length ≤ 100000 ∧ (∀ v ∈ mxY xs ys x, (Lit.int .i64 v).wf = true) ∧ (mxY xs ys x).length ≤ 100000 ∧ (mxZ xs ys x ≠ 0 → mxX xs ys x = [] ∧ mxY xs ys x = [] ∧ mxP xs ys x = []) ∧ (∀ v ∈ mxP xs ys x, (Lit.int .i64 v).wf = true) := by
  have hw := mx_wf xs ys x
  by_cases hz : mxZ xs ys x = 0
  · obtain ⟨ht, _⟩ := ckZ_ok (show ckZ xs ys [x] = 0 from hz)
    have hg := restL_good (axes := [x]) (tenB_iff.1 ht).1
    have b := sm_bounds [x] ht
    have hx4 := (goodB_iff.1 hg).1
    refine ⟨hw.1, ?_, hw.2.1, ?_, fun h => absurd hz h, hw.2.2⟩
    · unfold mxX; rw [hz, zL_0]; omega
    · unfold mxY; rw [hz, zL_0, List.length_map, List.length_range]; omega
  · have e1 : mxX xs ys x = [] := by unfold mxX; exact zL_ne _ hz
    have e2 : mxY xs ys x = [] := by unfold mxY; exact zL_ne _ hz
    have e3 : mxP xs ys x = [] := by unfold mxP; exact zL_ne _ hz
    rw [e1, e2, e3]
    exact ⟨by simp, by simp, by simp, by simp, fun _ => ⟨rfl, rfl, rfl⟩, by simp⟩
theorem num8L_any (e : Int) (w : World) : Calls Tryz.prog 39 #[.int .i64 e] w fun r w' => r = .returned (.int .i64 e) ∧ w = w' := num9_any e w

set_option maxRecDepth 100000 in
set_option maxHeartbeats 8000000 in
theorem reduceExact_any (q : Option Addr) (n c0 : Nat) (w : World) (h : AsksAt9 w w.heap.size q n) :
    Calls Tryz.prog 3 #[.slice q n c0] w fun e w' => e = .returned (.bool true) ∧ Below w.heap.size w w' := by
  have hm := h.len
  go_enter Tryz.func3, Tryz.ntmps3
  go_wp2_with fail
  go_loopw [3] (fun i wr => ∃ k : Nat, k ≤ n ∧ i = .int .i64 k ∧ Below w.heap.size w wr) (fun i _ => n - (intOf i).toNat)
  case atStart => exact ⟨0, Nat.zero_le _, rfl, Below.refl _ _⟩
  case round =>
    obtain ⟨k, hk, rfl, hbel⟩ := hrel
    obtain ⟨wo, rfl⟩ : ∃ wo : World, wo = wr := ⟨_, rfl⟩
    by_cases hend : k < n ∧ k < 10
    · obtain ⟨hlt, h20⟩ := hend
      obtain ⟨b0, o_, ⟨a, c, b, d, xs, ys⟩, ai, ci, axes, x, rfl, ht⟩ := h.at_ k hlt
      replace ht := ht.below hbel
      have hsz := hbel.size
      have HB := Lib.hid hbel
      have tA := ht.tA
      dsimp only at tA
      have hl1 := tA.sh.len
      have hl2 := tA.da.len
      have hl3 := ht.tI.len
      have HI0 := Lib.hid (tA.sh.mono hsz)
      have HI1 := Lib.hid (tA.da.mono hsz)
      have HI2 := Lib.hid (ht.tI.mono hsz)
      have HC1 := Lib.hid (And.intro tA.c1 tA.c2)
      have HC2 := Lib.hid (And.intro tA.d1 tA.d2)
      have HC3 := Lib.hid (And.intro ht.i1 ht.i2)
      have HX := Lib.hid (And.intro ht.x0 ht.x1)
      have hhv := fun W => heavyT_any a b xs.length c ys.length d 60 W hl1 hl2
      have q0 := ht.c0
      have q1 := ht.c1
      have q2 := ht.c2
      have q3 := ht.c3
      dsimp only at q0 q1 q2 q3
      clear ht tA hbel h
      have F1 := Lib.hid ((Fr.start (w := wo) (I := [(.i64, a, xs), (.i64, b, ys), (.i64, ai, axes)]) (by intro z hz; simp at hz; rcases hz with rfl | rfl | rfl; exact HI0.out; exact HI1.out; exact HI2.out)).box1 (b := wo.heap.size) rfl [.slice a xs.length c, .slice b ys.length d, .slice ai axes.length ci, .int .i64 x] 28)
      simp only [List.nil_append] at F1
      obtain ⟨hv, hhe⟩ : ∃ t, (decide ((60 : Int) < ys.length) || decide (8 < xs.length)) = t := ⟨_, rfl⟩
      rw [hhe] at hhv
      obtain ⟨hx, hxe⟩ : ∃ t, (hv || decide (10 < axes.length)) = t := ⟨_, rfl⟩
      have HHE := Lib.hid hhe
      have HXE := Lib.hid hxe
      have HHV := Lib.hid hhv
      clear hhe hxe hhv
      have d10 : decide ((k : Int) < 10) = true := decide_eq_true (by omega)
      go_upto_region 5 with fail
      (try simp only [d10])
      clear d10
      obtain ⟨W1, hW1⟩ : ∃ W1, wo.alloc (.cells #[.slice a xs.length c, .slice b ys.length d, .slice ai axes.length ci, .int .i64 x] 28) = W1 := ⟨_, rfl⟩
      rw [hW1] at F1 ⊢
      clear hW1 q0 q1 q2 q3
      go_cut [39] from 31 to 39 (fun s39 wx => s39 = .bool hx ∧ Hid (Fr wo.heap.size wo wx [(wo.heap.size, [.slice a xs.length c, .slice b ys.length d, .slice ai axes.length ci, .int .i64 x])] [(.i64, a, xs), (.i64, b, ys), (.i64, ai, axes)] [] []))
      case first =>
        have c0_0 := F1.out.c 0 0 rfl rfl
        have c0_1 := F1.out.c 0 1 rfl rfl
        have c0_2 := F1.out.c 0 2 rfl rfl
        have c0_3 := F1.out.c 0 3 rfl rfl
        cases hv with
        | true =>
          obtain rfl : hx = true := by rw [← HXE.out]; rfl
          go_wp2_with (go_at_call 4; refine (HHV.out W1).mono ?_; rintro e w2 ⟨rfl, hb⟩; have F2 := Lib.hid (F1.out.next hb); clear hb F1 c0_0 c0_1 c0_2 c0_3)
          go_meet
          exact ⟨rfl, F2⟩
        | false =>
          by_cases h10 : 10 < axes.length
          · obtain rfl : hx = true := by rw [← HXE.out]; simpa using h10
            have h10i : (10 : Int) < (axes.length : Int) := by omega
            go_wp2_with (go_at_call 4; refine (HHV.out W1).mono ?_; rintro e w2 ⟨rfl, hb⟩; have F2 := Lib.hid (F1.out.next hb); clear hb F1 c0_0 c0_1 c0_2 c0_3; have d0_0 := F2.out.c 0 0 rfl rfl; have d0_1 := F2.out.c 0 1 rfl rfl; have d0_2 := F2.out.c 0 2 rfl rfl; have d0_3 := F2.out.c 0 3 rfl rfl)
            go_meet
            exact ⟨by first | rfl | (simp; omega) | simp [h10], F2⟩
          · obtain rfl : hx = false := by rw [← HXE.out]; simpa using h10
            have h10i : ¬ (10 : Int) < (axes.length : Int) := by omega
            go_wp2_with (go_at_call 4; refine (HHV.out W1).mono ?_; rintro e w2 ⟨rfl, hb⟩; have F2 := Lib.hid (F1.out.next hb); clear hb F1 c0_0 c0_1 c0_2 c0_3; have d0_0 := F2.out.c 0 0 rfl rfl; have d0_1 := F2.out.c 0 1 rfl rfl; have d0_2 := F2.out.c 0 2 rfl rfl; have d0_3 := F2.out.c 0 3 rfl rfl)
            go_meet
            exact ⟨by first | rfl | (simp; omega) | simp [h10], F2⟩
      case rest =>
        obtain ⟨rfl, F2⟩ := hcut
        clear F1
        obtain ⟨w2, rfl⟩ : ∃ z : World, z = wc := ⟨_, rfl⟩
        cases hx with
        | true =>
          go_wp2
          go_ret
          exact ⟨rfl, HB.out.trans (F2.out.bel.mono HB.out.size)⟩
        | false =>
          have hg : ys.length ≤ 60 ∧ xs.length ≤ 8 ∧ axes.length ≤ 10 := by
            have h1 := HXE.out
            rw [← HHE.out] at h1
            simp only [Bool.or_eq_false_iff, decide_eq_false_iff_not] at h1
            omega
          obtain ⟨g1, g2, g3⟩ := hg
          clear HXE HHE HHV
          have hVA := fun (p q : Option Addr) (cp cq : Nat) W (h : Ints .i64 W W.heap.size p xs) (h2 : Ints .i64 W W.heap.size q ys) (h3 : Ints .i64 W W.heap.size ai axes) => rsum_all p q ai cp cq ci xs ys axes W h h2 h3
          have hVB := fun (p q : Option Addr) (cp cq : Nat) W (h : Ints .i64 W W.heap.size p xs) (h2 : Ints .i64 W W.heap.size q ys) (h3 : Ints .i64 W W.heap.size ai axes) => rmean_all p q ai cp cq ci xs ys axes W h h2 h3
          have hVC := fun (p q : Option Addr) (cp cq : Nat) W (h : Ints .i64 W W.heap.size p xs) (h2 : Ints .i64 W W.heap.size q ys) => rmax_all p q cp cq xs ys x W h h2 HX.out
          have HXW := Lib.hid HI0.out.wf
          have HYW := Lib.hid HI1.out.wf
          have HAW := Lib.hid HI2.out.wf
          have okA := sm_ok false xs ys axes
          have okB := sm_ok true xs ys axes
          have okC := mx_ok xs ys x
          obtain ⟨AZ, hAZ⟩ : ∃ z, smZ false xs ys axes = z := ⟨_, rfl⟩
          obtain ⟨AX, hAX⟩ : ∃ z, smX false xs ys axes = z := ⟨_, rfl⟩
          obtain ⟨AY, hAY⟩ : ∃ z, smY false xs ys axes = z := ⟨_, rfl⟩
          rw [hAZ, hAX, hAY] at hVA okA
          obtain ⟨o1, o2, o3, o4, o5⟩ := okA
          have HVA := Lib.hid hVA
          have EAZ := Lib.hid hAZ
          have EAX := Lib.hid hAX
          have EAY := Lib.hid hAY
          have HWAX := Lib.hid o1
          have HLAX := Lib.hid o2
          have HWAY := Lib.hid o3
          have HLAY := Lib.hid o4
          have HNA := Lib.hid o5
          skip
          clear hVA hAZ hAX hAY o1 o2 o3 o4 o5
          obtain ⟨BZ, hBZ⟩ : ∃ z, smZ true xs ys axes = z := ⟨_, rfl⟩
          obtain ⟨BX, hBX⟩ : ∃ z, smX true xs ys axes = z := ⟨_, rfl⟩
          obtain ⟨BY, hBY⟩ : ∃ z, smY true xs ys axes = z := ⟨_, rfl⟩
          rw [hBZ, hBX, hBY] at hVB okB
          obtain ⟨o1, o2, o3, o4, o5⟩ := okB
          have HVB := Lib.hid hVB
          have EBZ := Lib.hid hBZ
          have EBX := Lib.hid hBX
          have EBY := Lib.hid hBY
          have HWBX := Lib.hid o1
          have HLBX := Lib.hid o2
          have HWBY := Lib.hid o3
          have HLBY := Lib.hid o4
          have HNB := Lib.hid o5
          skip
          clear hVB hBZ hBX hBY o1 o2 o3 o4 o5
          obtain ⟨CP, hCP⟩ : ∃ z, mxP xs ys x = z := ⟨_, rfl⟩
          rw [hCP] at hVC okC
          have ECP := Lib.hid hCP
          clear hCP
          obtain ⟨CZ, hCZ⟩ : ∃ z, mxZ xs ys x = z := ⟨_, rfl⟩
          obtain ⟨CX, hCX⟩ : ∃ z, mxX xs ys x = z := ⟨_, rfl⟩
          obtain ⟨CY, hCY⟩ : ∃ z, mxY xs ys x = z := ⟨_, rfl⟩
          rw [hCZ, hCX, hCY] at hVC okC
          obtain ⟨o1, o2, o3, o4, o5, o6⟩ := okC
          have HVC := Lib.hid hVC
          have ECZ := Lib.hid hCZ
          have ECX := Lib.hid hCX
          have ECY := Lib.hid hCY
          have HWCX := Lib.hid o1
          have HLCX := Lib.hid o2
          have HWCY := Lib.hid o3
          have HLCY := Lib.hid o4
          have HNC := Lib.hid o5
          have HWCP := Lib.hid o6
          clear hVC hCZ hCX hCY o1 o2 o3 o4 o5 o6
          have htm := fun W (h : Ints .i64 W W.heap.size a xs) (h2 : Ints .i64 W W.heap.size b ys) => tenMay_any a b c d xs ys W h h2
          obtain ⟨tb, htb⟩ : ∃ t, tenB xs ys = t := ⟨_, rfl⟩
          rw [htb] at htm
          have HTB := Lib.hid htb
          have HTM := Lib.hid htm
          clear htb htm
          obtain ⟨A0, hA0⟩ : ∃ z : Int, (if tb = true then 0 else 1) = z := ⟨_, rfl⟩
          have EA0 := Lib.hid hA0
          clear hA0
          have d0_0 := F2.out.c 0 0 rfl rfl
          have d0_1 := F2.out.c 0 1 rfl rfl
          have d0_2 := F2.out.c 0 2 rfl rfl
          have d0_3 := F2.out.c 0 3 rfl rfl
          go_upto_if 43 with (go_at_call 5; refine (HTM.out _ (F2.out.lw 0 rfl) (F2.out.lw 1 rfl)).mono ?_; rintro e w3 ⟨rfl, hb⟩; have F3 := Lib.hid (F2.out.next hb); clear hb F2 d0_0 d0_1 d0_2 d0_3)
          go_cut [5] from 43 to 43 (fun s5 wx => s5 = .int .i64 A0 ∧ wx = w3)
          case first =>
            cases tb with
            | true =>
              have hz : A0 = 0 := by rw [← EA0.out]; rfl
              go_wp2
              go_meet
              exact ⟨by rw [hz], rfl⟩
            | false =>
              have hz : A0 = 1 := by rw [← EA0.out]; rfl
              go_wp2
              go_meet
              exact ⟨by rw [hz], rfl⟩
          case rest =>
            obtain ⟨rfl, rfl⟩ := hcut
            go_upto_region 11 with fail
            obtain ⟨w5, rfl⟩ : ∃ z : World, z = wc := ⟨_, rfl⟩
            obtain ⟨S6, hS6⟩ : ∃ z, w5.heap.size = z := ⟨_, rfl⟩
            have F6 := Lib.hid (((F3.out.box1 (b := S6) (by simp [hS6]) [.slice none 0 0, .slice none 0 0] 26).box1 (b := S6 + 1) (by simp [hS6]) [.slice none 0 0, .slice none 0 0] 26).box1 (b := S6 + 1 + 1) (by simp [hS6]) [.slice none 0 0, .slice none 0 0] 26)
            simp only [List.nil_append, List.cons_append] at F6
            go_upto_region 12 with fail
            (try simp only [hS6])
            obtain ⟨W6, hW6⟩ : ∃ z, (((w5.alloc (.cells #[.slice none 0 0, .slice none 0 0] 26)).alloc (.cells #[.slice none 0 0, .slice none 0 0] 26)).alloc (.cells #[.slice none 0 0, .slice none 0 0] 26)) = z := ⟨_, rfl⟩
            rw [hW6] at F6 ⊢
            clear hW6 F3
            obtain ⟨Y7, hY7⟩ : ∃ z, S6 = z := ⟨_, rfl⟩
            obtain ⟨Y8, hY8⟩ : ∃ z, S6 + 1 = z := ⟨_, rfl⟩
            obtain ⟨Y9, hY9⟩ : ∃ z, S6 + 1 + 1 = z := ⟨_, rfl⟩
            rw [hY9, hY8, hY7] at F6 ⊢
            clear hS6 hY7 hY8 hY9
            go_upto_if 48 with fail
            go_cut [6, 7, 8, 9, 10, 11, 12] from 6 to 92 (fun s6 s7 s8 s9 s10 s11 s12 wx => ∃ a7 c7 b7 d7 a8 c8 b8 d8 a9 c9 b9 d9 p9 q9, s9 = .pointer (some ⟨Y7, 0, none⟩) ∧ s10 = .pointer (some ⟨Y8, 0, none⟩) ∧ s11 = .pointer (some ⟨Y9, 0, none⟩) ∧ s6 = .int .i64 AZ ∧ s7 = .int .i64 BZ ∧ s8 = .int .i64 CZ ∧ s12 = .slice p9 CP.length q9 ∧ Hid (Fr wo.heap.size wo wx [(wo.heap.size, [.slice a xs.length c, .slice b ys.length d, .slice ai axes.length ci, .int .i64 x]), (Y7, [.slice a7 AX.length c7, .slice b7 AY.length d7]), (Y8, [.slice a8 BX.length c8, .slice b8 BY.length d8]), (Y9, [.slice a9 CX.length c9, .slice b9 CY.length d9])] [(.i64, a, xs), (.i64, b, ys), (.i64, ai, axes)] [⟨3, .slice a7 AX.length c7, AX.length, AX.map (Value.int .i64)⟩, ⟨2, .slice b7 AY.length d7, AY.length, AY.map (Value.int .i64)⟩, ⟨3, .slice a8 BX.length c8, BX.length, BX.map (Value.int .i64)⟩, ⟨2, .slice b8 BY.length d8, BY.length, BY.map (Value.int .i64)⟩, ⟨3, .slice a9 CX.length c9, CX.length, CX.map (Value.int .i64)⟩, ⟨2, .slice b9 CY.length d9, CY.length, CY.map (Value.int .i64)⟩, ⟨3, .slice p9 CP.length q9, CP.length, CP.map (Value.int .i64)⟩] []))
            case first =>
              cases tb with
              | false =>
                obtain rfl : A0 = 1 := by rw [← EA0.out]; rfl
                have hck : ∀ l, ckZ xs ys l = 1 := fun l => by unfold ckZ; rw [HTB.out]; rfl
                have z1 : AZ = 1 := by rw [← EAZ.out]; unfold smZ; rw [hck]; rfl
                have z2 : BZ = 1 := by rw [← EBZ.out]; unfold smZ; rw [hck]; rfl
                have z3 : CZ = 1 := by rw [← ECZ.out]; exact hck _
                have n1 := HNA.out (by rw [z1]; decide)
                have n2 := HNB.out (by rw [z2]; decide)
                have n3 := HNC.out (by rw [z3]; decide)
                have HZ1 := Lib.hid z1
                have HZ2 := Lib.hid z2
                have HZ3 := Lib.hid z3
                have HN1 := Lib.hid n1
                have HN2 := Lib.hid n2
                have HN3 := Lib.hid n3
                clear hck z1 z2 z3 n1 n2 n3
                go_wp2
                go_meet
                refine ⟨none, 0, none, 0, none, 0, none, 0, none, 0, none, 0, none, 0, rfl, rfl, rfl, by rw [HZ1.out], by rw [HZ2.out], by rw [HZ3.out], by rw [HN3.out.2.2]; rfl, Lib.hid ?_⟩
                rw [HN1.out.1, HN1.out.2, HN2.out.1, HN2.out.2, HN3.out.1, HN3.out.2.1, HN3.out.2.2]
                have h9 := (((((((F6.out.addNil 3).addNil 2).addNil 3).addNil 2).addNil 3).addNil 2).addNil 3)
                simpa only [List.append_assoc, List.cons_append, List.nil_append, List.map_nil, List.length_nil] using h9
              | true =>
                obtain rfl : A0 = 0 := by rw [← EA0.out]; rfl
                have hax := fun W (h : Ints .i64 W W.heap.size ai axes) => axes8_any ai ci axes (xs.length : Int) W h
                obtain ⟨ab, hab⟩ : ∃ t, axB (-1) (xs.length : Int) axes = t := ⟨_, rfl⟩
                rw [hab] at hax
                have HAB := Lib.hid hab
                have HAX8 := Lib.hid hax
                clear hab hax
                have d0_0 := F6.out.c 0 0 rfl rfl
                have d0_1 := F6.out.c 0 1 rfl rfl
                have d0_2 := F6.out.c 0 2 rfl rfl
                have d0_3 := F6.out.c 0 3 rfl rfl
                go_upto_if 56 with (go_at_call 6; refine (HAX8.out _ (F6.out.lw 2 rfl)).mono ?_; rintro e w7 ⟨rfl, hb⟩; have F61 := Lib.hid (F6.out.next hb); clear hb F6 d0_0 d0_1 d0_2 d0_3)
                go_cut [6, 7, 8, 9, 10, 11, 12] from 6 to 72 (fun s6 s7 s8 s9 s10 s11 s12 wx => ∃ a7 c7 b7 d7 a8 c8 b8 d8, s9 = .pointer (some ⟨Y7, 0, none⟩) ∧ s10 = .pointer (some ⟨Y8, 0, none⟩) ∧ s11 = .pointer (some ⟨Y9, 0, none⟩) ∧ s6 = .int .i64 AZ ∧ s7 = .int .i64 BZ ∧ s8 = .int .i64 0 ∧ s12 = .slice none 0 0 ∧ Hid (Fr wo.heap.size wo wx [(wo.heap.size, [.slice a xs.length c, .slice b ys.length d, .slice ai axes.length ci, .int .i64 x]), (Y7, [.slice a7 AX.length c7, .slice b7 AY.length d7]), (Y8, [.slice a8 BX.length c8, .slice b8 BY.length d8]), (Y9, [.slice none 0 0, .slice none 0 0])] [(.i64, a, xs), (.i64, b, ys), (.i64, ai, axes)] [⟨3, .slice a7 AX.length c7, AX.length, AX.map (Value.int .i64)⟩, ⟨2, .slice b7 AY.length d7, AY.length, AY.map (Value.int .i64)⟩, ⟨3, .slice a8 BX.length c8, BX.length, BX.map (Value.int .i64)⟩, ⟨2, .slice b8 BY.length d8, BY.length, BY.map (Value.int .i64)⟩] []))
                case first =>
                  cases ab with
                  | false =>
                    have hck : ckZ xs ys axes = 2 := by unfold ckZ; rw [if_pos HTB.out, HAB.out]; rfl
                    have z1 : AZ = 2 := by rw [← EAZ.out]; unfold smZ; rw [hck]; rfl
                    have z2 : BZ = 2 := by rw [← EBZ.out]; unfold smZ; rw [hck]; rfl
                    have n1 := HNA.out (by rw [z1]; decide)
                    have n2 := HNB.out (by rw [z2]; decide)
                    have HZ1 := Lib.hid z1
                    have HZ2 := Lib.hid z2
                    have HN1 := Lib.hid n1
                    have HN2 := Lib.hid n2
                    clear hck z1 z2 n1 n2
                    go_wp2
                    go_meet
                    refine ⟨none, 0, none, 0, none, 0, none, 0, rfl, rfl, rfl, by rw [HZ1.out], by rw [HZ2.out], rfl, rfl, Lib.hid ?_⟩
                    rw [HN1.out.1, HN1.out.2, HN2.out.1, HN2.out.2]
                    have h9 := ((((F61.out.addNil 3).addNil 2).addNil 3).addNil 2)
                    simpa only [List.append_assoc, List.cons_append, List.nil_append, List.map_nil, List.length_nil] using h9
                  | true =>
                    have hck : ckZ xs ys axes = 0 := by unfold ckZ; rw [if_pos HTB.out, HAB.out]; rfl
                    have hrA := fun W (h : Ints .i64 W W.heap.size a xs) (h2 : Ints .i64 W W.heap.size b ys) (h3 : Ints .i64 W W.heap.size ai axes) => rreduce_any a b ai c d ci xs ys axes false W h h2 h3 hck
                    rw [EAX.out, EAY.out, EAZ.out] at hrA
                    have HRA := Lib.hid hrA
                    clear hrA
                    have hrB := fun W (h : Ints .i64 W W.heap.size a xs) (h2 : Ints .i64 W W.heap.size b ys) (h3 : Ints .i64 W W.heap.size ai axes) => rreduce_any a b ai c d ci xs ys axes true W h h2 h3 hck
                    rw [EBX.out, EBY.out, EBZ.out] at hrB
                    have HRB := Lib.hid hrB
                    clear hrB
                    clear hck
                    have d0_0 := F61.out.c 0 0 rfl rfl
                    have d0_1 := F61.out.c 0 1 rfl rfl
                    have d0_2 := F61.out.c 0 2 rfl rfl
                    have d0_3 := F61.out.c 0 3 rfl rfl
                    go_upto_region 18 with (go_at_call 7; refine (HRA.out _ (F61.out.lw 0 rfl) (F61.out.lw 1 rfl) (F61.out.lw 2 rfl)).mono ?_; rintro e w8 ⟨a7, c7, b7, d7, rfl, hf⟩; have FZ := Lib.hid (F61.out.join hf); simp only [List.cons_append, List.nil_append] at FZ; clear hf F61 d0_0 d0_1 d0_2 d0_3; have z1_0 := FZ.out.c 1 0 rfl rfl; have z1_1 := FZ.out.c 1 1 rfl rfl; have zf1_0 := FZ.out.f 1 0 rfl rfl; have zf1_1 := FZ.out.f 1 1 rfl rfl)
                    have F71 := Lib.hid (FZ.out.set 1 rfl (by simp) [.slice a7 AX.length c7, .slice b7 AY.length d7] rfl)
                    simp only [List.set_cons_zero, List.set_cons_succ, List.cons_append, List.nil_append] at F71
                    obtain ⟨W8, hWn⟩ : ∃ z, setL w8 Y7 0 [.slice a7 AX.length c7, .slice b7 AY.length d7] = z := ⟨_, rfl⟩
                    rw [hWn] at F71
                    simp only [setL, Nat.reduceAdd] at hWn
                    rw [hWn]
                    clear hWn FZ z1_0 z1_1 zf1_0 zf1_1
                    have d0_0 := F71.out.c 0 0 rfl rfl
                    have d0_1 := F71.out.c 0 1 rfl rfl
                    have d0_2 := F71.out.c 0 2 rfl rfl
                    have d0_3 := F71.out.c 0 3 rfl rfl
                    go_wp2_with (go_at_call 7; refine (HRB.out _ (F71.out.lw 0 rfl) (F71.out.lw 1 rfl) (F71.out.lw 2 rfl)).mono ?_; rintro e w9 ⟨a8, c8, b8, d8, rfl, hf⟩; have FZ := Lib.hid (F71.out.join hf); simp only [List.cons_append, List.nil_append] at FZ; clear hf F71 d0_0 d0_1 d0_2 d0_3; have z2_0 := FZ.out.c 2 0 rfl rfl; have z2_1 := FZ.out.c 2 1 rfl rfl; have zf2_0 := FZ.out.f 2 0 rfl rfl; have zf2_1 := FZ.out.f 2 1 rfl rfl)
                    go_meet
                    refine ⟨a7, c7, b7, d7, a8, c8, b8, d8, rfl, rfl, rfl, rfl, rfl, rfl, rfl, Lib.hid ?_⟩
                    have h9 := FZ.out.set 2 rfl (by simp) [.slice a8 BX.length c8, .slice b8 BY.length d8] rfl
                    simpa only [setL, Nat.reduceAdd, List.set_cons_zero, List.set_cons_succ, List.cons_append, List.nil_append] using h9
                case rest =>
                  obtain ⟨a7, c7, b7, d7, a8, c8, b8, d8, rfl, rfl, rfl, rfl, rfl, rfl, rfl, F7⟩ := hcut
                  clear F61
                  obtain ⟨V7, rfl⟩ : ∃ z : World, z = wc := ⟨_, rfl⟩
                  have d0_0 := F7.out.c 0 0 rfl rfl
                  have d0_1 := F7.out.c 0 1 rfl rfl
                  have d0_2 := F7.out.c 0 2 rfl rfl
                  have d0_3 := F7.out.c 0 3 rfl rfl
                  obtain ⟨xb, hxb⟩ : ∃ t, (decide (x < 0) || decide ((xs.length : Int) ≤ x)) = t := ⟨_, rfl⟩
                  have HXB := Lib.hid hxb
                  clear hxb
                  go_upto_region 19 with fail
                  go_cut [84] from 73 to 84 (fun s84 wx => s84 = .bool xb ∧ Hid (Fr wo.heap.size wo wx [(wo.heap.size, [.slice a xs.length c, .slice b ys.length d, .slice ai axes.length ci, .int .i64 x]), (Y7, [.slice a7 AX.length c7, .slice b7 AY.length d7]), (Y8, [.slice a8 BX.length c8, .slice b8 BY.length d8]), (Y9, [.slice none 0 0, .slice none 0 0])] [(.i64, a, xs), (.i64, b, ys), (.i64, ai, axes)] [⟨3, .slice a7 AX.length c7, AX.length, AX.map (Value.int .i64)⟩, ⟨2, .slice b7 AY.length d7, AY.length, AY.map (Value.int .i64)⟩, ⟨3, .slice a8 BX.length c8, BX.length, BX.map (Value.int .i64)⟩, ⟨2, .slice b8 BY.length d8, BY.length, BY.map (Value.int .i64)⟩] []))
                  case first =>
                    by_cases hx0 : x < 0
                    · obtain rfl : xb = true := by rw [← HXB.out, decide_eq_true hx0]; rfl
                      go_wp2
                      go_meet
                      first | exact ⟨rfl, F7⟩ | exact ⟨rfl, Lib.hid F7.out.drew⟩
                    · by_cases hx1 : (xs.length : Int) ≤ x
                      · obtain rfl : xb = true := by rw [← HXB.out, decide_eq_true hx1, Bool.or_true]
                        go_wp2
                        go_meet
                        first | exact ⟨rfl, F7⟩ | exact ⟨rfl, Lib.hid F7.out.drew⟩
                      · obtain rfl : xb = false := by rw [← HXB.out, decide_eq_false hx0, decide_eq_false hx1]; rfl
                        go_wp2
                        go_meet
                        first | exact ⟨rfl, F7⟩ | exact ⟨rfl, Lib.hid F7.out.drew⟩
                  case rest =>
                    obtain ⟨rfl, FT⟩ := hcut
                    clear F7 d0_0 d0_1 d0_2 d0_3
                    obtain ⟨V8, rfl⟩ : ∃ z : World, z = wc := ⟨_, rfl⟩
                    cases xb with
                    | true =>
                      have hck : ckZ xs ys [x] = 2 := by
                        have h1 := HXB.out
                        unfold ckZ
                        rw [if_pos HTB.out, if_neg]
                        simp only [axB, Bool.and_true, Bool.and_eq_true, decide_eq_true_eq]
                        simp only [Bool.or_eq_true, decide_eq_true_eq] at h1
                        omega
                      have z3 : CZ = 2 := by rw [← ECZ.out]; exact hck
                      have n3 := HNC.out (by rw [z3]; decide)
                      have HZ3 := Lib.hid z3
                      have HN3 := Lib.hid n3
                      clear hck z3 n3
                      go_wp2
                      go_meet
                      refine ⟨a7, c7, b7, d7, a8, c8, b8, d8, none, 0, none, 0, none, 0, rfl, rfl, rfl, rfl, rfl, by rw [HZ3.out], by rw [HN3.out.2.2]; rfl, Lib.hid ?_⟩
                      rw [HN3.out.1, HN3.out.2.1, HN3.out.2.2]
                      have h9 := ((FT.out.addNil 3).addNil 2).addNil 3
                      simpa only [List.append_assoc, List.cons_append, List.nil_append, List.map_nil, List.length_nil] using h9
                    | false =>
                      have h1 := HXB.out
                      simp only [Bool.or_eq_false_iff, decide_eq_false_iff_not] at h1
                      obtain ⟨x9, hx9⟩ : ∃ z : Nat, x = (z : Int) := ⟨x.toNat, by omega⟩
                      have hck : ckZ xs ys [x] = 0 := by
                        unfold ckZ
                        rw [if_pos HTB.out, if_pos]
                        simp only [axB, Bool.and_true, Bool.and_eq_true, decide_eq_true_eq]
                        omega
                      have hz3 : CZ = 0 := by rw [← ECZ.out]; exact hck
                      have hrm := fun W (h : Ints .i64 W W.heap.size a xs) (h2 : Ints .i64 W W.heap.size b ys) => rmax8_any a b c d x9 xs ys W h h2 HTB.out (by omega)
                      have e1 : restL xs [(x9 : Int)] = CX := by rw [← hx9, ← ECX.out]; unfold mxX mxZ; rw [hck, zL_0]
                      have e2 : (List.range (smN xs [(x9 : Int)])).map (mxT xs ys x9 ys.length) = CY := by rw [← ECY.out]; unfold mxY mxZ; rw [hck, zL_0, hx9, Int.toNat_natCast]
                      have e3 : (List.range (smN xs [(x9 : Int)])).map (mxQ xs ys x9 ys.length) = CP := by rw [← ECP.out]; unfold mxP mxZ; rw [hck, zL_0, hx9, Int.toNat_natCast]
                      rw [e1, e2, e3, ← hx9] at hrm
                      have HRM := Lib.hid hrm
                      have HZ3 := Lib.hid hz3
                      clear h1 hx9 hck hz3 hrm e1 e2 e3
                      have d0_0 := FT.out.c 0 0 rfl rfl
                      have d0_1 := FT.out.c 0 1 rfl rfl
                      have d0_2 := FT.out.c 0 2 rfl rfl
                      have d0_3 := FT.out.c 0 3 rfl rfl
                      go_wp2_with (go_at_call 8; refine (HRM.out _ (FT.out.lw 0 rfl) (FT.out.lw 1 rfl)).mono ?_; rintro e w9 ⟨a9, c9, b9, d9, p9, q9, rfl, hf⟩; have FZ := Lib.hid (FT.out.join hf); simp only [List.cons_append, List.nil_append] at FZ; clear hf FT d0_0 d0_1 d0_2 d0_3; have z3_0 := FZ.out.c 3 0 rfl rfl; have z3_1 := FZ.out.c 3 1 rfl rfl; have zf3_0 := FZ.out.f 3 0 rfl rfl; have zf3_1 := FZ.out.f 3 1 rfl rfl)
                      go_meet
                      refine ⟨a7, c7, b7, d7, a8, c8, b8, d8, a9, c9, b9, d9, p9, q9, rfl, rfl, rfl, rfl, rfl, by rw [HZ3.out], rfl, Lib.hid ?_⟩
                      have h9 := FZ.out.set 3 rfl (by simp) [.slice a9 CX.length c9, .slice b9 CY.length d9] rfl
                      simpa only [setL, Nat.reduceAdd, List.set_cons_zero, List.set_cons_succ, List.cons_append, List.nil_append] using h9
            case rest =>
              obtain ⟨a7, c7, b7, d7, a8, c8, b8, d8, a9, c9, b9, d9, p9, q9, rfl, rfl, rfl, rfl, rfl, rfl, rfl, F8⟩ := hcut
              clear F6
              obtain ⟨V9, rfl⟩ : ∃ z : World, z = wc := ⟨_, rfl⟩
              have hcv := fun W (h : Ints .i64 W W.heap.size a xs) (h2 : Ints .i64 W W.heap.size b ys) => copyTen_any a b c d xs ys W h h2 (by omega) (by omega)
              have d0_0 := F8.out.c 0 0 rfl rfl
              have d0_1 := F8.out.c 0 1 rfl rfl
              have d0_2 := F8.out.c 0 2 rfl rfl
              have d0_3 := F8.out.c 0 3 rfl rfl
              go_upto_region 23 with (go_at_call 9; refine (hcv _ (F8.out.lw 0 rfl) (F8.out.lw 1 rfl)).mono ?_; rintro e w10 ⟨a10, c10, b10, d10, rfl, hf⟩; have F9 := Lib.hid (F8.out.join hf); simp only [List.cons_append, List.nil_append] at F9; clear hf F8 d0_0 d0_1 d0_2 d0_3)
              obtain ⟨Y10, hY10⟩ : ∃ x, w10.heap.size = x := ⟨_, rfl⟩
              rw [hY10]
              have F10 := Lib.hid (F9.out.box1 (b := Y10) hY10 [.slice a10 xs.length c10, .slice b10 ys.length d10] 26)
              simp only [List.nil_append, List.cons_append] at F10
              obtain ⟨W10, hW10⟩ : ∃ x, (w10.alloc (.cells #[.slice a10 xs.length c10, .slice b10 ys.length d10] 26)) = x := ⟨_, rfl⟩
              rw [hW10] at F10 ⊢
              clear hW10 hY10 F9
              clear hcv
              have d0_0 := F10.out.c 0 0 rfl rfl
              have d0_1 := F10.out.c 0 1 rfl rfl
              have d0_2 := F10.out.c 0 2 rfl rfl
              have d0_3 := F10.out.c 0 3 rfl rfl
              have d4_0 := F10.out.c 4 0 rfl rfl
              have d4_1 := F10.out.c 4 1 rfl rfl
              go_upto_region 24 with (go_at_call 10; refine (HVA.out a10 b10 c10 d10 _ (F10.out.li 7 (k := .i64) (xs := xs) rfl HXW.out) (F10.out.li 8 (k := .i64) (xs := ys) rfl HYW.out) (F10.out.lw 2 rfl)).mono ?_; rintro e wa0 ⟨xa, xc, ya, yd, rfl, hf⟩; have Fa0 := Lib.hid (F10.out.join hf); simp only [List.cons_append, List.nil_append] at Fa0; clear hf F10 d0_0 d0_1 d0_2 d0_3 d4_0 d4_1)
              obtain ⟨Y11, hY11⟩ : ∃ x, wa0.heap.size = x := ⟨_, rfl⟩
              rw [hY11]
              have Fb0 := Lib.hid (Fa0.out.box1 (b := Y11) hY11 [.slice xa AX.length xc, .slice ya AY.length yd] 26)
              simp only [List.nil_append, List.cons_append] at Fb0
              obtain ⟨Wb0, hWb0⟩ : ∃ x, (wa0.alloc (.cells #[.slice xa AX.length xc, .slice ya AY.length yd] 26)) = x := ⟨_, rfl⟩
              rw [hWb0] at Fb0 ⊢
              clear hWb0 hY11 Fa0
              have HIS := Lib.hid (is8_any xa ya a7 b7 xc yd c7 d7 wo.heap.size AX AY AX AY AZ AZ Wb0 (Fb0.out.r 9 rfl) (Fb0.out.r 10 rfl) (frNe Fb0.out 9 10 (by decide) rfl rfl) HLAX.out HLAY.out Fb0.out.hlo HWAX.out HWAY.out (Fb0.out.li 0 (k := .i64) (xs := AX) rfl HWAX.out) (Fb0.out.li 1 (k := .i64) (xs := AY) rfl HWAY.out) rfl (fun _ => ⟨rfl, rfl⟩) HNA.out)
              have d5_0 := Fb0.out.c 5 0 rfl rfl
              have d5_1 := Fb0.out.c 5 1 rfl rfl
              have d1_0 := Fb0.out.c 1 0 rfl rfl
              have d1_1 := Fb0.out.c 1 1 rfl rfl
              go_upto_region 26 with (go_at_call 11; refine (HIS.out).mono ?_; rintro e wc0 ⟨rfl, U1, U2, hb1, hg2, hg3⟩; have Fd0 := Lib.hid (((Fb0.out.next hb1).spoil 9 rfl hg2).spoil 9 rfl hg3); simp only [List.eraseIdx_cons_succ, List.eraseIdx_cons_zero, List.eraseIdx_zero, List.tail_cons] at Fd0; clear hb1 hg2 hg3 HIS Fb0 d5_0 d5_1 d1_0 d1_1)
              have d0_0 := Fd0.out.c 0 0 rfl rfl
              have d0_1 := Fd0.out.c 0 1 rfl rfl
              have d0_2 := Fd0.out.c 0 2 rfl rfl
              have d0_3 := Fd0.out.c 0 3 rfl rfl
              have d4_0 := Fd0.out.c 4 0 rfl rfl
              have d4_1 := Fd0.out.c 4 1 rfl rfl
              have d5_0 := Fd0.out.c 5 0 rfl rfl
              have d5_1 := Fd0.out.c 5 1 rfl rfl
              have df5_0 := Fd0.out.f 5 0 rfl rfl
              have df5_1 := Fd0.out.f 5 1 rfl rfl
              go_upto_region 27 with (go_at_call 12; refine (HVB.out a10 b10 c10 d10 _ (Fd0.out.li 7 (k := .i64) (xs := xs) rfl HXW.out) (Fd0.out.li 8 (k := .i64) (xs := ys) rfl HYW.out) (Fd0.out.lw 2 rfl)).mono ?_; rintro e wa1 ⟨xa, xc, ya, yd, rfl, hf⟩; have Fa1 := Lib.hid (Fd0.out.join hf); simp only [List.cons_append, List.nil_append] at Fa1; clear hf Fd0 d0_0 d0_1 d0_2 d0_3 d4_0 d4_1 d5_0 d5_1 df5_0 df5_1; have e5_0 := Fa1.out.c 5 0 rfl rfl; have e5_1 := Fa1.out.c 5 1 rfl rfl; have ef5_0 := Fa1.out.f 5 0 rfl rfl; have ef5_1 := Fa1.out.f 5 1 rfl rfl)
              have Fb1 := Lib.hid (Fa1.out.set 5 rfl (by simp) [.slice xa BX.length xc, .slice ya BY.length yd] rfl)
              simp only [List.set_cons_zero, List.set_cons_succ] at Fb1
              obtain ⟨Wb1, hWb⟩ : ∃ x, setL wa1 Y11 0 [.slice xa BX.length xc, .slice ya BY.length yd] = x := ⟨_, rfl⟩
              rw [hWb] at Fb1
              simp only [setL, Nat.reduceAdd] at hWb
              rw [hWb]
              clear hWb Fa1 e5_0 e5_1 ef5_0 ef5_1
              have HIS := Lib.hid (is8_any xa ya a8 b8 xc yd c8 d8 wo.heap.size BX BY BX BY BZ BZ Wb1 (Fb1.out.r 9 rfl) (Fb1.out.r 10 rfl) (frNe Fb1.out 9 10 (by decide) rfl rfl) HLBX.out HLBY.out Fb1.out.hlo HWBX.out HWBY.out (Fb1.out.li 2 (k := .i64) (xs := BX) rfl HWBX.out) (Fb1.out.li 3 (k := .i64) (xs := BY) rfl HWBY.out) rfl (fun _ => ⟨rfl, rfl⟩) HNB.out)
              have d5_0 := Fb1.out.c 5 0 rfl rfl
              have d5_1 := Fb1.out.c 5 1 rfl rfl
              have d2_0 := Fb1.out.c 2 0 rfl rfl
              have d2_1 := Fb1.out.c 2 1 rfl rfl
              go_upto_region 29 with (go_at_call 11; refine (HIS.out).mono ?_; rintro e wc1 ⟨rfl, U1, U2, hb1, hg2, hg3⟩; have Fd1 := Lib.hid (((Fb1.out.next hb1).spoil 9 rfl hg2).spoil 9 rfl hg3); simp only [List.eraseIdx_cons_succ, List.eraseIdx_cons_zero, List.eraseIdx_zero, List.tail_cons] at Fd1; clear hb1 hg2 hg3 HIS Fb1 d5_0 d5_1 d2_0 d2_1)
              have d0_0 := Fd1.out.c 0 0 rfl rfl
              have d0_1 := Fd1.out.c 0 1 rfl rfl
              have d0_2 := Fd1.out.c 0 2 rfl rfl
              have d0_3 := Fd1.out.c 0 3 rfl rfl
              have d4_0 := Fd1.out.c 4 0 rfl rfl
              have d4_1 := Fd1.out.c 4 1 rfl rfl
              have d5_0 := Fd1.out.c 5 0 rfl rfl
              have d5_1 := Fd1.out.c 5 1 rfl rfl
              have df5_0 := Fd1.out.f 5 0 rfl rfl
              have df5_1 := Fd1.out.f 5 1 rfl rfl
              go_upto_region 30 with (go_at_call 13; refine (HVC.out a10 b10 c10 d10 _ (Fd1.out.li 7 (k := .i64) (xs := xs) rfl HXW.out) (Fd1.out.li 8 (k := .i64) (xs := ys) rfl HYW.out)).mono ?_; rintro e wa2 ⟨xa, xc, ya, yd, xp, xq, rfl, hf⟩; have Fa2 := Lib.hid (Fd1.out.join hf); simp only [List.cons_append, List.nil_append] at Fa2; clear hf Fd1 d0_0 d0_1 d0_2 d0_3 d4_0 d4_1 d5_0 d5_1 df5_0 df5_1; have e5_0 := Fa2.out.c 5 0 rfl rfl; have e5_1 := Fa2.out.c 5 1 rfl rfl; have ef5_0 := Fa2.out.f 5 0 rfl rfl; have ef5_1 := Fa2.out.f 5 1 rfl rfl)
              have Fb2 := Lib.hid (Fa2.out.set 5 rfl (by simp) [.slice xa CX.length xc, .slice ya CY.length yd] rfl)
              simp only [List.set_cons_zero, List.set_cons_succ] at Fb2
              obtain ⟨Wb2, hWb⟩ : ∃ x, setL wa2 Y11 0 [.slice xa CX.length xc, .slice ya CY.length yd] = x := ⟨_, rfl⟩
              rw [hWb] at Fb2
              simp only [setL, Nat.reduceAdd] at hWb
              rw [hWb]
              clear hWb Fa2 e5_0 e5_1 ef5_0 ef5_1
              have hen := fun W (h1 : Ints .i64 W W.heap.size xp CP) (h2 : Ints .i64 W W.heap.size p9 CP) => eqNumbers_any xp p9 xq q9 W.heap.size CP CP W h1 h2
              simp only [decide_true] at hen
              have HEN := Lib.hid hen
              clear hen
              have HIS := Lib.hid (fun W h h2 hne hb h3 h4 => is8_any xa ya a9 b9 xc yd c9 d9 wo.heap.size CX CY CX CY CZ CZ W h h2 hne HLCX.out HLCY.out hb HWCX.out HWCY.out h3 h4 rfl (fun _ => ⟨rfl, rfl⟩) (fun h => ⟨(HNC.out h).1, (HNC.out h).2.1⟩))
              have hev := fun W (h1 : Ints .i64 W W.heap.size a10 xs) (h2 : Ints .i64 W W.heap.size b10 ys) (h3 : Ints .i64 W W.heap.size a xs) (h4 : Ints .i64 W W.heap.size b ys) => eqTensor_any a10 b10 a b c10 d10 c d xs ys xs ys W h1 h2 h3 h4
              simp only [decide_true, Bool.and_true] at hev
              have HEV := Lib.hid hev
              clear hev
              go_wp2_with (first | (go_at_call 14; refine (HEN.out _ (Fb2.out.li 11 (k := .i64) (xs := CP) rfl HWCP.out) (Fb2.out.li 6 (k := .i64) (xs := CP) rfl HWCP.out)).mono ?_; rintro e w20 ⟨rfl, q20, rfl⟩; have FE := Lib.hid (Fb2.out.drewN q20); clear Fb2; have d5_0 := FE.out.c 5 0 rfl rfl; have d5_1 := FE.out.c 5 1 rfl rfl; have d3_0 := FE.out.c 3 0 rfl rfl; have d3_1 := FE.out.c 3 1 rfl rfl) | (go_at_call 11; refine (HIS.out _ (FE.out.r 9 rfl) (FE.out.r 10 rfl) (frNe FE.out 9 10 (by decide) rfl rfl) FE.out.hlo (FE.out.li 4 (k := .i64) (xs := CX) rfl HWCX.out) (FE.out.li 5 (k := .i64) (xs := CY) rfl HWCY.out)).mono ?_; rintro e wc2 ⟨rfl, U1, U2, hb1, hg2, hg3⟩; have Fd2 := Lib.hid (((FE.out.next hb1).spoil 9 rfl hg2).spoil 9 rfl hg3); simp only [List.eraseIdx_cons_succ, List.eraseIdx_cons_zero, List.eraseIdx_zero, List.tail_cons] at Fd2; clear hb1 hg2 hg3 HIS FE d5_0 d5_1 d3_0 d3_1; have f0_0 := Fd2.out.c 0 0 rfl rfl; have f0_1 := Fd2.out.c 0 1 rfl rfl; have f0_2 := Fd2.out.c 0 2 rfl rfl; have f0_3 := Fd2.out.c 0 3 rfl rfl; have f4_0 := Fd2.out.c 4 0 rfl rfl; have f4_1 := Fd2.out.c 4 1 rfl rfl) | (go_at_call 15; refine (HEV.out _ (Fd2.out.li 7 (k := .i64) (xs := xs) rfl HXW.out) (Fd2.out.li 8 (k := .i64) (xs := ys) rfl HYW.out) (Fd2.out.lw 0 rfl) (Fd2.out.lw 1 rfl)).mono ?_; rintro e w30 ⟨rfl, hb⟩; have F30 := Lib.hid (Fd2.out.next hb); clear hb Fd2 f0_0 f0_1 f0_2 f0_3 f4_0 f4_1) | fail)
              go_roundw
              case rel => exact ⟨k + 1, by omega, by go_num, HB.out.trans (F30.out.bel.mono HB.out.size)⟩
              case measure => simp [intOf]; omega
    · have HB := Lib.hid hbel
      clear hbel h
      have WK := fun W => Lib.hid (wakes9_any W)
      by_cases hlt : k < n
      · have hk15 : ¬ (k : Int) < 10 := by omega
        have hkn : (k : Int) < n := by omega
        go_wp2_with (go_at_call 16; refine ((WK _).out).mono ?_; rintro e w1 ⟨rfl, hb⟩; have HW1 := Lib.hid hb; clear hb)
        go_ret
        exact ⟨rfl, HB.out.trans (HW1.out.mono HB.out.size)⟩
      · obtain rfl : k = n := by omega
        go_wp2_with (go_at_call 16; refine ((WK _).out).mono ?_; rintro e w1 ⟨rfl, hb⟩; have HW1 := Lib.hid hb; clear hb)
        go_ret
        exact ⟨rfl, HB.out.trans (HW1.out.mono HB.out.size)⟩
end Go.Proofs.YtinboddfmojodaaGreat
