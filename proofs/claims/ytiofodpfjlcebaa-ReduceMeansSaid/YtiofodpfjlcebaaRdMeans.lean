/- The law ReduceMeans, walked. -/
import Derived.Test.YtiofodpfjlcebaaRdG
set_option linter.unusedVariables false
set_option linter.unusedSimpArgs false
namespace Go.Proofs.Ytiofodpfjlcebaa
open Go.RowKit Go.Rt
set_option maxHeartbeats 1000000 in
theorem ref2Add_any (x y z : Int) (w : World) (hx : -9223372036854775808 ≤ x ∧ x ≤ 9223372036854775807) (hy : -9223372036854775808 ≤ y ∧ y ≤ 9223372036854775807) (hz : x + y = z) :
    Calls Try.prog 11 #[.int .i64 x, .int .i64 y] w fun e w' => RetV (wordV z) (wordE z) e ∧ Below w.heap.size w w' := by
  have h1 := Lib.hid (fun w => zfrom_any x w hx.1 hx.2)
  have h2 := Lib.hid (fun w => zfrom_any y w hy.1 hy.2)
  have h3 := Lib.hid (fun p q c d w h h' => zplus_any p q c d x y z w h h' (dig_word (by omega)) (dig_word (by omega)) hz)
  have h4 := Lib.hid (fun p c w h => ref2Word_any p c z w h)
  have M1 : True := trivial
  clear hx hy hz
  go_enter Try.func11, Try.ntmps11
  go_wp2_with (first
    | (go_at_call 31; have hmk := M1; clear hmk M1; refine (h1.out _).mono ?_; rintro e w1 ⟨a1, c1, rfl, hN1, hb⟩; have HB1 := Lib.hid hb; have HN1 := Lib.hid hN1; clear hb hN1)
    | (go_at_call 31; refine (h2.out _).mono ?_; rintro e w2 ⟨a2, c2, rfl, hN2, hb⟩; have HB2 := Lib.hid hb; have HN2 := Lib.hid hN2; clear hb hN2)
    | (go_at_call 30; refine (h3.out _ _ _ _ _ (HN1.out.next HB2.out) HN2.out).mono ?_; rintro e w3 ⟨a3, c3, rfl, hN3, hb⟩; have HB3 := Lib.hid hb; have HN3 := Lib.hid hN3; clear hb hN3)
    | (go_at_call 29; refine (h4.out _ _ _ HN3.out).mono ?_; rintro e w4 ⟨he, hb⟩; unfold RetV at he; subst he; have HB4 := Lib.hid hb; clear hb) | fail)
  go_ret2
  exact ⟨rfl, HB1.out.trans ((HB2.out.trans ((HB3.out.trans (HB4.out.mono HB3.out.size)).mono HB2.out.size)).mono HB1.out.size)⟩

theorem means_facts {xs ys : List Int} (ht : tenB xs ys = true) : smX true xs ys (axN xs.length) = [] ∧ smY true xs ys (axN xs.length) = [roundI (sumN ys ys.length) ys.length] ∧ smZ true xs ys (axN xs.length) = 0 ∧
    smX false xs ys (axN xs.length) = [] ∧ smZ false xs ys (axN xs.length) = (if isW (sumN ys ys.length) = true then 0 else 3) ∧ smY false xs ys (axN xs.length) = zL (if isW (sumN ys ys.length) = true then 0 else 3) [sumN ys ys.length] := by
  have lT := tenB_iff.1 ht
  have hr : restL xs (axN xs.length) = [] := rest_axN (Nat.le_refl _)
  have hN : smN xs (axN xs.length) = 1 := by unfold smN; rw [hr]; rfl
  have hck : ckZ xs ys (axN xs.length) = 0 := by unfold ckZ; rw [if_pos ht, if_pos (axB_all _)]
  have hP := goodB_prod lT.1
  have h0 : 0 < ys.length := by have := lT.2.1; omega
  have hS : smS xs ys (axN xs.length) 0 = sumN ys ys.length := by
    unfold smS
    exact sumK_all _ fun i _ => by show (intoI xs (axN xs.length) i).toNat = 0; unfold intoI; rw [hr]; rfl
  have hRt : smR true xs ys (axN xs.length) 0 = roundI (sumN ys ys.length) ys.length := by
    unfold smR smC
    rw [hS, if_pos rfl, hN, Nat.div_one]
  have hRf : smR false xs ys (axN xs.length) 0 = sumN ys ys.length := by
    unfold smR smC
    rw [hS, if_neg (by decide)]
    exact round_one _
  have hm := mean_all lT.2.2 h0
  have hzt : smZ true xs ys (axN xs.length) = 0 := by
    unfold smZ rdZ
    rw [if_pos hck, hN]
    simp [hRt, hm.2.2]
  have hzf : smZ false xs ys (axN xs.length) = (if isW (sumN ys ys.length) = true then 0 else 3) := by
    unfold smZ rdZ
    rw [if_pos hck, hN]
    simp [hRf]
  refine ⟨?_, ?_, hzt, ?_, hzf, ?_⟩
  · unfold smX; rw [hr]; unfold zL; split <;> rfl
  · unfold smY; rw [hzt, zL_0, hN]; simp [hRt]
  · unfold smX; rw [hr]; unfold zL; split <;> rfl
  · unfold smY; rw [hzf, hN]; simp [hRf]

theorem sumN_bound {ys : List Int} (h : ∀ y ∈ ys, isW y = true) : ∀ n, (sumN ys n).natAbs ≤ n * 140737488355328
  | 0 => by simp [sumN]
  | n + 1 => by
    have ih := sumN_bound h n
    have hy : (ys[n]?.getD 0).natAbs ≤ 140737488355328 := by
      by_cases hn : n < ys.length
      · rw [List.getElem?_eq_getElem hn, Option.getD_some]; have := isW_iff.1 (h _ (List.getElem_mem hn)); omega
      · rw [List.getElem?_eq_none (by omega)]; simp
    rw [Nat.succ_mul, sumN]
    generalize n * 140737488355328 = q at ih ⊢
    omega
theorem half_sum {S : Int} (h : S.natAbs ≤ 60 * 140737488355328) : ∃ hx, IntKind.i64.wrap (S.tdiv 2) = hx ∧ IntKind.i64.wrap (S - hx) = S - hx ∧ (-9223372036854775808 ≤ hx ∧ hx ≤ 9223372036854775807) ∧ (-9223372036854775808 ≤ S - hx ∧ S - hx ≤ 9223372036854775807) ∧ hx + (S - hx) = S := by
  have hb : -(60 * 140737488355328) ≤ S.tdiv 2 ∧ S.tdiv 2 ≤ 60 * 140737488355328 := by
    rcases Int.le_total 0 S with h2 | h2
    · rw [Int.tdiv_eq_ediv_of_nonneg h2]; omega
    · have e : S.tdiv 2 = -((-S).tdiv 2) := by rw [Int.neg_tdiv, Int.neg_neg]
      rw [e, Int.tdiv_eq_ediv_of_nonneg (by omega)]; omega
  generalize S.tdiv 2 = q at hb
  exact ⟨q, IntWalk.i64_in _ (by omega), IntWalk.i64_in _ (by omega), by omega, by omega, by omega⟩

set_option maxRecDepth 100000 in
set_option maxHeartbeats 8000000 in
theorem reduceMeans_any (q : Option Addr) (n c0 : Nat) (w : World) (h : AsksAt9 w w.heap.size q n) :
    Calls Try.prog 3 #[.slice q n c0] w fun e w' => e = .returned (.bool true) ∧ Below w.heap.size w w' := by
  have hm := h.len
  go_enter Try.func3, Try.ntmps3
  go_wp2_with fail
  go_loopw [3] (fun i wr => ∃ k : Nat, k ≤ n ∧ i = .int .i64 k ∧ Below w.heap.size w wr) (fun i _ => n - (intOf i).toNat)
  case atStart => exact ⟨0, Nat.zero_le _, rfl, Below.refl _ _⟩
  case round =>
    obtain ⟨k, hk, rfl, hbel⟩ := hrel
    obtain ⟨wo, rfl⟩ : ∃ wo : World, wo = wr := ⟨_, rfl⟩
    by_cases hend : k < n ∧ k < 10
    · obtain ⟨hlt, h20⟩ := hend
      obtain ⟨b0, o_, ⟨a, c, b, d, xs, ys⟩, ai, ci, axes, x, rfl, ht⟩ := h.at_ k hlt
      replace ht := ht.below hbel
      have hsz := hbel.size
      have HB := Lib.hid hbel
      have tA := ht.tA
      dsimp only at tA
      have hl1 := tA.sh.len
      have hl2 := tA.da.len
      have HI0 := Lib.hid (tA.sh.mono hsz)
      have HI1 := Lib.hid (tA.da.mono hsz)
      have HI2 := Lib.hid (ht.tI.mono hsz)
      have HC1 := Lib.hid (And.intro tA.c1 tA.c2)
      have HC2 := Lib.hid (And.intro tA.d1 tA.d2)
      have HC3 := Lib.hid (And.intro ht.i1 ht.i2)
      have HX := Lib.hid (And.intro ht.x0 ht.x1)
      have hhv := fun W => heavyT_any a b xs.length c ys.length d 60 W hl1 hl2
      have q0 := ht.c0
      have q1 := ht.c1
      have q2 := ht.c2
      have q3 := ht.c3
      dsimp only at q0 q1 q2 q3
      clear ht tA hbel h
      cases hv : (decide ((60 : Int) < ys.length) || decide (8 < xs.length)) with
      | true =>
        rw [hv] at hhv
        clear hv
        have F1 := Lib.hid ((Fr.start (w := wo) (I := [(.i64, a, xs), (.i64, b, ys), (.i64, ai, axes)]) (by intro z hz; simp at hz; rcases hz with rfl | rfl | rfl; exact HI0.out; exact HI1.out; exact HI2.out)).box1 (b := wo.heap.size) rfl [.slice a xs.length c, .slice b ys.length d, .slice ai axes.length ci, .int .i64 x] 28)
        simp only [List.nil_append] at F1
        go_upto_region 5 with fail
        obtain ⟨W1, hW1⟩ : ∃ W1, wo.alloc (.cells #[.slice a xs.length c, .slice b ys.length d, .slice ai axes.length ci, .int .i64 x] 28) = W1 := ⟨_, rfl⟩
        rw [hW1] at F1 ⊢
        clear hW1 q0 q1 q2 q3
        have c0_0 := F1.out.c 0 0 rfl rfl
        have c0_1 := F1.out.c 0 1 rfl rfl
        have c0_2 := F1.out.c 0 2 rfl rfl
        have c0_3 := F1.out.c 0 3 rfl rfl
        go_wp2_with (go_at_call 6; refine (hhv W1).mono ?_; rintro e w2 ⟨rfl, hb⟩; have F2 := Lib.hid (F1.out.next hb); clear hb)
        go_ret
        exact ⟨rfl, HB.out.trans (F2.out.bel.mono HB.out.size)⟩
      | false =>
        have hg12 : ys.length ≤ 60 ∧ xs.length ≤ 8 := by
          simp only [Bool.or_eq_false_iff, decide_eq_false_iff_not] at hv
          omega
        obtain ⟨g1, g2⟩ := hg12
        rw [hv] at hhv
        clear hv
        have htm := fun W (h : Ints .i64 W W.heap.size a xs) (h2 : Ints .i64 W W.heap.size b ys) => tenMay_any a b c d xs ys W h h2
        have HTM := Lib.hid htm
        clear htm
        have F1 := Lib.hid ((Fr.start (w := wo) (I := [(.i64, a, xs), (.i64, b, ys), (.i64, ai, axes)]) (by intro z hz; simp at hz; rcases hz with rfl | rfl | rfl; exact HI0.out; exact HI1.out; exact HI2.out)).box1 (b := wo.heap.size) rfl [.slice a xs.length c, .slice b ys.length d, .slice ai axes.length ci, .int .i64 x] 28)
        simp only [List.nil_append] at F1
        go_upto_region 5 with fail
        obtain ⟨W1, hW1⟩ : ∃ W1, wo.alloc (.cells #[.slice a xs.length c, .slice b ys.length d, .slice ai axes.length ci, .int .i64 x] 28) = W1 := ⟨_, rfl⟩
        rw [hW1] at F1 ⊢
        clear hW1 q0 q1 q2 q3
        have c0_0 := F1.out.c 0 0 rfl rfl
        have c0_1 := F1.out.c 0 1 rfl rfl
        have c0_2 := F1.out.c 0 2 rfl rfl
        have c0_3 := F1.out.c 0 3 rfl rfl
        go_upto_region 7 with (go_at_call 6; refine (hhv W1).mono ?_; rintro e w2 ⟨rfl, hb⟩; have F2 := Lib.hid (F1.out.next hb); clear hb F1 c0_0 c0_1 c0_2 c0_3; have d0_0 := F2.out.c 0 0 rfl rfl; have d0_1 := F2.out.c 0 1 rfl rfl; have d0_2 := F2.out.c 0 2 rfl rfl; have d0_3 := F2.out.c 0 3 rfl rfl)
        have htm := HTM.out
        clear HTM
        cases htb : tenB xs ys with
        | false =>
          rw [htb] at htm
          have HTM := Lib.hid htm
          clear htm htb
          go_wp2_with (go_at_call 7; refine (HTM.out _ (F2.out.lw 0 rfl) (F2.out.lw 1 rfl)).mono ?_; rintro e w3 ⟨rfl, hb⟩; have F3 := Lib.hid (F2.out.next hb); clear hb F2 d0_0 d0_1 d0_2 d0_3)
          go_roundw
          case rel => exact ⟨k + 1, by omega, by go_num, HB.out.trans (F3.out.bel.mono HB.out.size)⟩
          case measure => simp [intOf]; omega
        | true =>
          rw [htb] at htm
          have HTM := Lib.hid htm
          clear htm
          have lT := tenB_iff.1 htb
          have hP := goodB_prod lT.1
          have h0 : 0 < ys.length := by have := lT.2.1; omega
          have hmf := means_facts htb
          have hma := mean_all lT.2.2 h0
          have hmn := mean_near (sumN ys ys.length) ys.length (by omega)
          have HWD := Lib.hid lT.2.2
          have HSB := Lib.hid (sumN_bound lT.2.2)
          have hme := fun a9 c9 W h h2 h3 => rmean_all a b a9 c d c9 xs ys (axN xs.length) W h h2 h3
          have hsu := fun a9 c9 W h h2 h3 => rsum_all a b a9 c d c9 xs ys (axN xs.length) W h h2 h3
          rw [hmf.1, hmf.2.1, hmf.2.2.1, axN_len] at hme
          rw [hmf.2.2.2.1, hmf.2.2.2.2.1, hmf.2.2.2.2.2, axN_len] at hsu
          have hx4 := (goodB_iff.1 lT.1).1
          obtain ⟨S, hS⟩ : ∃ S, sumN ys ys.length = S := ⟨_, rfl⟩
          rw [hS] at hma hmn hme hsu
          obtain ⟨m, hM⟩ : ∃ m, roundI S ys.length = m := ⟨_, rfl⟩
          rw [hM] at hma hmn hme
          have HS := Lib.hid hS
          have HMA := Lib.hid hma
          have HMN := Lib.hid hmn
          clear hmf lT hP htb hS hM hma hmn
          have haw : ∀ z ∈ axN xs.length, (Lit.int .i64 z).wf = true := fun z hz => by
            unfold axN at hz
            obtain ⟨i, hi, rfl⟩ := List.mem_map.1 hz
            have := List.mem_range.1 hi
            exact wf_i64_iff.2 ⟨by omega, by omega⟩
          have HAW := Lib.hid haw
          clear haw
          obtain ⟨gb, ob, rfl, _, _⟩ := HI1.out.cell 0 h0
          have HME := Lib.hid hme
          have HSU := Lib.hid hsu
          clear hme hsu
          go_upto_region 8 with (go_at_call 7; refine (HTM.out _ (F2.out.lw 0 rfl) (F2.out.lw 1 rfl)).mono ?_; rintro e w3 ⟨rfl, hb⟩; have F3 := Lib.hid (F2.out.next hb); clear hb F2 d0_0 d0_1 d0_2 d0_3)
          go_upto_region 9 with fail
          skip
          have F4 := Lib.hid (F3.out.addNil 3)
          simp only [List.nil_append] at F4
          go_wp2
          go_loopw [5, 6] (fun s5 s6 wr => ∃ (j : Nat) (ab : Option Addr) (cb : Nat), j ≤ xs.length ∧ s6 = .int .i64 j ∧ s5 = .slice ab j cb ∧ Hid (Fr wo.heap.size wo wr [(wo.heap.size, [.slice a xs.length c, .slice (some ⟨gb, ob, none⟩) ys.length d, .slice ai axes.length ci, .int .i64 x])] [(.i64, a, xs), (.i64, (some ⟨gb, ob, none⟩), ys), (.i64, ai, axes)] [⟨3, .slice ab j cb, j, (axN j).map (Value.int .i64)⟩] [])) (fun _ s6 _ => xs.length - (intOf s6).toNat)
          case atStart => exact ⟨0, none, 0, Nat.zero_le _, rfl, rfl, F4⟩
          case round =>
            obtain ⟨j, ab, cb, hj, rfl, rfl, F5⟩ := hrel
            clear F3 F4
            obtain ⟨wi, rfl⟩ : ∃ x : World, x = wr := ⟨_, rfl⟩
            have c0_0 := F5.out.c 0 0 rfl rfl
            have c0_1 := F5.out.c 0 1 rfl rfl
            have c0_2 := F5.out.c 0 2 rfl rfl
            have c0_3 := F5.out.c 0 3 rfl rfl
            by_cases hlj : j < xs.length
            · skip
              have hji : (j : Int) < (xs.length : Int) := by omega
              go_wp2_with (first | (at_builtin; refine appendI wo.heap.size (.slice ab j cb) j (axN j) (j : Int) _ _ _ rfl rfl rfl (F5.out.r 0 rfl) rfl (by omega) F5.out.hlo ?_; intro v' w8 hown hbel hgr hob; rw [← axN_succ] at hown; obtain ⟨a8, c8, rfl, _⟩ := own_shape hown; have F8 := Lib.hid (F5.out.wroteO 0 rfl hgr hown (fun g hg => by rcases hob with h | h; exact .inl (h.symm.trans hg); exact .inr (by rw [h] at hg; injection hg with hg; omega))); simp only [List.set_cons_zero] at F8; clear hown hbel hgr hob F5 c0_0 c0_1 c0_2 c0_3) | fail)
              go_roundw
              case rel => exact ⟨j + 1, a8, c8, by omega, by go_num, rfl, F8⟩
              case measure => simp [intOf]; omega
            · obtain rfl : j = xs.length := by omega
              go_upto_region 14 with (first | (go_at_call 8; refine (HME.out ab cb wi (F5.out.lw 0 rfl) (F5.out.lw 1 rfl) (F5.out.li 0 (k := .i64) (xs := axN xs.length) rfl HAW.out)).mono ?_; rintro e w6 ⟨am, cm, bm, dm, rfl, hf⟩; have F6 := Lib.hid (F5.out.join hf); simp only [List.cons_append, List.nil_append] at F6; clear hf F5 c0_0 c0_1 c0_2 c0_3) | fail)
              simp only [List.length_cons, List.length_nil, Nat.reduceAdd, Nat.zero_add, List.map_nil, List.map_cons] at F6
              (try simp only [List.length_cons, List.length_nil, Nat.reduceAdd, Nat.zero_add])
              obtain ⟨bm', dm', he, hsh⟩ := own_shape (F6.out.r 2 rfl)
              simp only [Value.slice.injEq] at he
              obtain ⟨rfl, _, rfl⟩ := he
              obtain ⟨gm, rfl, _⟩ := hsh.resolve_left (show ¬ (1 : Nat) = 0 from by decide)
              obtain ⟨Y7, hY7⟩ : ∃ x, w6.heap.size = x := ⟨_, rfl⟩
              rw [hY7]
              have F7 := Lib.hid (F6.out.box1 (b := Y7) hY7 [.slice am 0 cm, .slice (some ⟨gm, 0, none⟩) 1 dm] 26)
              simp only [List.nil_append, List.cons_append] at F7
              obtain ⟨W7, hW7⟩ : ∃ x, (w6.alloc (.cells #[.slice am 0 cm, .slice (some ⟨gm, 0, none⟩) 1 dm] 26)) = x := ⟨_, rfl⟩
              rw [hW7] at F7 ⊢
              clear hW7 hY7 F6
              have c1_0 := F7.out.c 1 0 rfl rfl
              have c1_1 := F7.out.c 1 1 rfl rfl
              go_upto_region 16 with (first | (go_at_call 9; refine (num9_any _ _).mono ?_; rintro e w' ⟨rfl, rfl⟩) | fail)
              clear c1_0 c1_1
              obtain ⟨y0, hy0⟩ : ∃ y, ys[0]?.getD 0 = y := ⟨_, rfl⟩
              have HY0 := Lib.hid hy0
              clear hy0
              refine wp_region_parts2 (w := W7) 12 0 none [] [(fun u _ => u = .pointer (some ⟨wo.heap.size, 0, none⟩)), (fun u _ => u = .pointer (some ⟨wo.heap.size, 1, none⟩)), (fun u _ => u = .slice (some ⟨gb, ob, none⟩) ys.length d), (fun u _ => u = .pointer (some ⟨gb, ob, none⟩)), (fun u _ => u = .int .i64 y0), (fun u _ => u = .pointer (some ⟨wo.heap.size, 0, none⟩)), (fun u _ => u = .pointer (some ⟨wo.heap.size, 1, none⟩)), (fun u _ => u = .slice (some ⟨gb, ob, none⟩) ys.length d), (fun u _ => u = .pointer (some ⟨gb, ob, none⟩)), (fun u _ => u = .int .i64 y0), (fun u _ => u = .int .i64 y0), (fun u _ => u = .int .i64 y0)] [some 68, some 69, some 70, some 71, some 72, some 73, some 74, some 75, some 76, some 77, some 9, some 10] #[true, true, true, true, true, true, true, true, true, true, true, true] #[true, true, true, true, true, true, true, true, true, true, true, true] (by kernel_rfl) rfl (by kernel_rfl) (by kernel_rfl) rfl (by kernel_rfl) (by kernel_rfl) (.cons (carries_eq _) (.cons (carries_eq _) (.cons (carries_eq _) (.cons (carries_eq _) (.cons (carries_eq _) (.cons (carries_eq _) (.cons (carries_eq _) (.cons (carries_eq _) (.cons (carries_eq _) (.cons (carries_eq _) (.cons (carries_eq _) (.cons (carries_eq _) .nil)))))))))))) (fun vs b hvl hvb => ?_)
              obtain ⟨x0, x1, x2, x3, x4, x5, x6, x7, x8, x9, x10, x11, rfl⟩ : ∃ x0 x1 x2 x3 x4 x5 x6 x7 x8 x9 x10 x11, vs = [x0, x1, x2, x3, x4, x5, x6, x7, x8, x9, x10, x11] := lst12 hvl
              clear hvl
              simp only [putAll, Act.put, List.setIfInBounds_toArray, List.set_cons_zero, List.set_cons_succ] at hvb
              subst hvb
              refine ⟨(.snoc (.snoc (.snoc (.snoc (.snoc (.snoc (.snoc (.snoc (.snoc (.snoc (.snoc (.snoc .zero (PartOb.intro (d := (some 68)) (r := fun u _ => u = .pointer (some ⟨wo.heap.size, 0, none⟩)) rfl rfl rfl rfl ?po16x0)) (PartOb.intro (d := (some 69)) (r := fun u _ => u = .pointer (some ⟨wo.heap.size, 1, none⟩)) rfl rfl rfl rfl ?po16x1)) (PartOb.intro (d := (some 70)) (r := fun u _ => u = .slice (some ⟨gb, ob, none⟩) ys.length d) rfl rfl rfl rfl ?po16x2)) (PartOb.intro (d := (some 71)) (r := fun u _ => u = .pointer (some ⟨gb, ob, none⟩)) rfl rfl rfl rfl ?po16x3)) (PartOb.intro (d := (some 72)) (r := fun u _ => u = .int .i64 y0) rfl rfl rfl rfl ?po16x4)) (PartOb.intro (d := (some 73)) (r := fun u _ => u = .pointer (some ⟨wo.heap.size, 0, none⟩)) rfl rfl rfl rfl ?po16x5)) (PartOb.intro (d := (some 74)) (r := fun u _ => u = .pointer (some ⟨wo.heap.size, 1, none⟩)) rfl rfl rfl rfl ?po16x6)) (PartOb.intro (d := (some 75)) (r := fun u _ => u = .slice (some ⟨gb, ob, none⟩) ys.length d) rfl rfl rfl rfl ?po16x7)) (PartOb.intro (d := (some 76)) (r := fun u _ => u = .pointer (some ⟨gb, ob, none⟩)) rfl rfl rfl rfl ?po16x8)) (PartOb.intro (d := (some 77)) (r := fun u _ => u = .int .i64 y0) rfl rfl rfl rfl ?po16x9)) (PartOb.intro (d := (some 9)) (r := fun u _ => u = .int .i64 y0) rfl rfl rfl rfl ?po16x10)) (PartOb.intro (d := (some 10)) (r := fun u _ => u = .int .i64 y0) rfl rfl rfl rfl ?po16x11)), ?pend16, ?pfl16⟩
              case po16x0 =>
                intro w1 hb1 hd KK hK
                clear hd
                simp only [Act.put, List.setIfInBounds_toArray, List.set_cons_zero, List.set_cons_succ] at hK
                go_simp
                first | exact hK.out _ _ (Below.refl _ _) rfl | (have hk := hK.out _ _ (Below.refl _ _) rfl; revert hk; go_simp)
              case po16x1 =>
                intro w1 hb1 hd KK hK
                have d0 : x0 = .pointer (some ⟨wo.heap.size, 0, none⟩) := hd 0 (by kernel_rfl)
                clear hd
                subst d0
                simp only [Act.put, List.setIfInBounds_toArray, List.set_cons_zero, List.set_cons_succ] at hK
                go_simp
                first | exact hK.out _ _ (Below.refl _ _) rfl | (have hk := hK.out _ _ (Below.refl _ _) rfl; revert hk; go_simp)
              case po16x2 =>
                intro w1 hb1 hd KK hK
                have d1 : x1 = .pointer (some ⟨wo.heap.size, 1, none⟩) := hd 1 (by kernel_rfl)
                clear hd
                subst d1
                have hF := F7.out.next hb1
                have k1 := hF.c 0 1 rfl rfl
                simp only [Act.put, List.setIfInBounds_toArray, List.set_cons_zero, List.set_cons_succ] at hK
                go_simp
                first | exact hK.out _ _ (Below.refl _ _) rfl | (have hk := hK.out _ _ (Below.refl _ _) rfl; revert hk; go_simp)
              case po16x3 =>
                intro w1 hb1 hd KK hK
                have d2 : x2 = .slice (some ⟨gb, ob, none⟩) ys.length d := hd 2 (by kernel_rfl)
                clear hd
                subst d2
                have h0i : (0 : Int) < (ys.length : Int) := by omega
                simp only [Act.put, List.setIfInBounds_toArray, List.set_cons_zero, List.set_cons_succ] at hK
                go_simp
                first | exact hK.out _ _ (Below.refl _ _) rfl | (have hk := hK.out _ _ (Below.refl _ _) rfl; revert hk; go_simp)
              case po16x4 =>
                intro w1 hb1 hd KK hK
                have d3 : x3 = .pointer (some ⟨gb, ob, none⟩) := hd 3 (by kernel_rfl)
                clear hd
                subst d3
                obtain ⟨b9, o9, he, hl9, hcx⟩ := ((F7.out.next hb1).l 1 rfl).cell 0 h0
                cases he
                rw [Nat.add_zero, HY0.out] at hcx
                simp only [Act.put, List.setIfInBounds_toArray, List.set_cons_zero, List.set_cons_succ] at hK
                go_simp
                first | exact hK.out _ _ (Below.refl _ _) rfl | (have hk := hK.out _ _ (Below.refl _ _) rfl; revert hk; go_simp)
              case po16x5 =>
                intro w1 hb1 hd KK hK
                clear hd
                simp only [Act.put, List.setIfInBounds_toArray, List.set_cons_zero, List.set_cons_succ] at hK
                go_simp
                first | exact hK.out _ _ (Below.refl _ _) rfl | (have hk := hK.out _ _ (Below.refl _ _) rfl; revert hk; go_simp)
              case po16x6 =>
                intro w1 hb1 hd KK hK
                have d5 : x5 = .pointer (some ⟨wo.heap.size, 0, none⟩) := hd 5 (by kernel_rfl)
                clear hd
                subst d5
                simp only [Act.put, List.setIfInBounds_toArray, List.set_cons_zero, List.set_cons_succ] at hK
                go_simp
                first | exact hK.out _ _ (Below.refl _ _) rfl | (have hk := hK.out _ _ (Below.refl _ _) rfl; revert hk; go_simp)
              case po16x7 =>
                intro w1 hb1 hd KK hK
                have d6 : x6 = .pointer (some ⟨wo.heap.size, 1, none⟩) := hd 6 (by kernel_rfl)
                clear hd
                subst d6
                have hF := F7.out.next hb1
                have k1 := hF.c 0 1 rfl rfl
                simp only [Act.put, List.setIfInBounds_toArray, List.set_cons_zero, List.set_cons_succ] at hK
                go_simp
                first | exact hK.out _ _ (Below.refl _ _) rfl | (have hk := hK.out _ _ (Below.refl _ _) rfl; revert hk; go_simp)
              case po16x8 =>
                intro w1 hb1 hd KK hK
                have d7 : x7 = .slice (some ⟨gb, ob, none⟩) ys.length d := hd 7 (by kernel_rfl)
                clear hd
                subst d7
                have h0i : (0 : Int) < (ys.length : Int) := by omega
                simp only [Act.put, List.setIfInBounds_toArray, List.set_cons_zero, List.set_cons_succ] at hK
                go_simp
                first | exact hK.out _ _ (Below.refl _ _) rfl | (have hk := hK.out _ _ (Below.refl _ _) rfl; revert hk; go_simp)
              case po16x9 =>
                intro w1 hb1 hd KK hK
                have d8 : x8 = .pointer (some ⟨gb, ob, none⟩) := hd 8 (by kernel_rfl)
                clear hd
                subst d8
                obtain ⟨b9, o9, he, hl9, hcx⟩ := ((F7.out.next hb1).l 1 rfl).cell 0 h0
                cases he
                rw [Nat.add_zero, HY0.out] at hcx
                simp only [Act.put, List.setIfInBounds_toArray, List.set_cons_zero, List.set_cons_succ] at hK
                go_simp
                first | exact hK.out _ _ (Below.refl _ _) rfl | (have hk := hK.out _ _ (Below.refl _ _) rfl; revert hk; go_simp)
              case po16x10 =>
                intro w1 hb1 hd KK hK
                have d0 : x0 = .pointer (some ⟨wo.heap.size, 0, none⟩) := hd 0 (by kernel_rfl)
                have d1 : x1 = .pointer (some ⟨wo.heap.size, 1, none⟩) := hd 1 (by kernel_rfl)
                have d2 : x2 = .slice (some ⟨gb, ob, none⟩) ys.length d := hd 2 (by kernel_rfl)
                have d3 : x3 = .pointer (some ⟨gb, ob, none⟩) := hd 3 (by kernel_rfl)
                have d4 : x4 = .int .i64 y0 := hd 4 (by kernel_rfl)
                clear hd
                subst d0
                subst d1
                subst d2
                subst d3
                subst d4
                simp only [Act.put, List.setIfInBounds_toArray, List.set_cons_zero, List.set_cons_succ] at hK
                go_simp
                first | exact hK.out _ _ (Below.refl _ _) rfl | (have hk := hK.out _ _ (Below.refl _ _) rfl; revert hk; go_simp)
              case po16x11 =>
                intro w1 hb1 hd KK hK
                have d0 : x0 = .pointer (some ⟨wo.heap.size, 0, none⟩) := hd 0 (by kernel_rfl)
                have d1 : x1 = .pointer (some ⟨wo.heap.size, 1, none⟩) := hd 1 (by kernel_rfl)
                have d2 : x2 = .slice (some ⟨gb, ob, none⟩) ys.length d := hd 2 (by kernel_rfl)
                have d3 : x3 = .pointer (some ⟨gb, ob, none⟩) := hd 3 (by kernel_rfl)
                have d4 : x4 = .int .i64 y0 := hd 4 (by kernel_rfl)
                have d5 : x5 = .pointer (some ⟨wo.heap.size, 0, none⟩) := hd 5 (by kernel_rfl)
                have d6 : x6 = .pointer (some ⟨wo.heap.size, 1, none⟩) := hd 6 (by kernel_rfl)
                have d7 : x7 = .slice (some ⟨gb, ob, none⟩) ys.length d := hd 7 (by kernel_rfl)
                have d8 : x8 = .pointer (some ⟨gb, ob, none⟩) := hd 8 (by kernel_rfl)
                have d9 : x9 = .int .i64 y0 := hd 9 (by kernel_rfl)
                have d10 : x10 = .int .i64 y0 := hd 10 (by kernel_rfl)
                clear hd
                subst d0
                subst d1
                subst d2
                subst d3
                subst d4
                subst d5
                subst d6
                subst d7
                subst d8
                subst d9
                subst d10
                simp only [Act.put, List.setIfInBounds_toArray, List.set_cons_zero, List.set_cons_succ] at hK
                go_simp
                first | exact hK.out _ _ (Below.refl _ _) rfl | (have hk := hK.out _ _ (Below.refl _ _) rfl; revert hk; go_simp)
              case pfl16 => (intro f hf; cases hf)
              case pend16 =>
              intro w1 hb1 hR hD
              have d0 : x0 = .pointer (some ⟨wo.heap.size, 0, none⟩) := hR 0 (by decide)
              have d1 : x1 = .pointer (some ⟨wo.heap.size, 1, none⟩) := hR 1 (by decide)
              have d2 : x2 = .slice (some ⟨gb, ob, none⟩) ys.length d := hR 2 (by decide)
              have d3 : x3 = .pointer (some ⟨gb, ob, none⟩) := hR 3 (by decide)
              have d4 : x4 = .int .i64 y0 := hR 4 (by decide)
              have d5 : x5 = .pointer (some ⟨wo.heap.size, 0, none⟩) := hR 5 (by decide)
              have d6 : x6 = .pointer (some ⟨wo.heap.size, 1, none⟩) := hR 6 (by decide)
              have d7 : x7 = .slice (some ⟨gb, ob, none⟩) ys.length d := hR 7 (by decide)
              have d8 : x8 = .pointer (some ⟨gb, ob, none⟩) := hR 8 (by decide)
              have d9 : x9 = .int .i64 y0 := hR 9 (by decide)
              have d10 : x10 = .int .i64 y0 := hR 10 (by decide)
              have d11 : x11 = .int .i64 y0 := hR 11 (by decide)
              clear hR hD
              subst d0
              subst d1
              subst d2
              subst d3
              subst d4
              subst d5
              subst d6
              subst d7
              subst d8
              subst d9
              subst d10
              subst d11
              refine wpAny_done (by kernel_rfl) ?_ _
              have F8 := Lib.hid (F7.out.next hb1)
              clear hb1 F7
              obtain ⟨W8, rfl⟩ : ∃ x : World, x = w1 := ⟨_, rfl⟩
              go_wp2
              go_loop [9, 10, 11, 12] (fun s9 s10 s11 s12 => ∃ j : Nat, j ≤ ys.length ∧ s12 = .int .i64 j ∧ s9 = .int .i64 (loN ys j) ∧ s10 = .int .i64 (hiN ys j) ∧ s11 = .int .i64 (sumN ys j)) (fun _ _ _ s12 => ys.length - (intOf s12).toNat)
              case atStart => exact ⟨0, Nat.zero_le _, rfl, by rw [← HY0.out]; rfl, by rw [← HY0.out]; rfl, rfl⟩
              case round =>
                obtain ⟨j, hj, rfl, rfl, rfl, rfl⟩ := hrel
                have c0_0 := F8.out.c 0 0 rfl rfl
                have c0_1 := F8.out.c 0 1 rfl rfl
                have c0_2 := F8.out.c 0 2 rfl rfl
                have c0_3 := F8.out.c 0 3 rfl rfl
                by_cases hlj : j < ys.length
                · skip
                  have hji : (j : Int) < (ys.length : Int) := by omega
                  obtain ⟨b9, o9, he, hl9, hcx⟩ := (F8.out.l 1 rfl).cell j hlj
                  cases he
                  have hlo : loN ys (j + 1) = min (loN ys j) (ys[j]?.getD 0) := rfl
                  have hhi : hiN ys (j + 1) = max (hiN ys j) (ys[j]?.getD 0) := rfl
                  have hsu : sumN ys (j + 1) = sumN ys j + ys[j]?.getD 0 := rfl
                  have hsb := HSB.out (j + 1)
                  rw [hsu] at hsb
                  obtain ⟨y, hy⟩ : ∃ y, ys[j]?.getD 0 = y := ⟨_, rfl⟩
                  rw [hy] at hcx hlo hhi hsu hsb
                  obtain ⟨lj, hlj2⟩ : ∃ x, loN ys j = x := ⟨_, rfl⟩
                  obtain ⟨hj9, hhj2⟩ : ∃ x, hiN ys j = x := ⟨_, rfl⟩
                  obtain ⟨sj, hsj2⟩ : ∃ x, sumN ys j = x := ⟨_, rfl⟩
                  rw [hlj2] at hlo ⊢
                  rw [hhj2] at hhi ⊢
                  rw [hsj2] at hsu hsb ⊢
                  have hkb : (j + 1) * 140737488355328 ≤ 60 * 140737488355328 := Nat.mul_le_mul_right _ (by omega)
                  have hwr : IntKind.i64.wrap (sj + y) = sj + y := IntWalk.i64_in _ (by omega)
                  have HLO := Lib.hid hlo
                  have HHI := Lib.hid hhi
                  have HSU2 := Lib.hid hsu
                  clear hlo hhi hsu hsb hy hlj2 hhj2 hsj2 hkb
                  go_wp2
                  go_round
                  case rel => exact ⟨j + 1, by omega, by go_num, by rw [HLO.out], by rw [HHI.out], by rw [HSU2.out]⟩
                  case measure => simp [intOf]; omega
                · obtain rfl : j = ys.length := by omega
                  rw [HS.out]
                  have hma := HMA.out
                  have hmn := HMN.out
                  obtain ⟨lo, hlo⟩ : ∃ x, loN ys ys.length = x := ⟨_, rfl⟩
                  obtain ⟨hi, hhi⟩ : ∃ x, hiN ys ys.length = x := ⟨_, rfl⟩
                  rw [hlo, hhi] at hma
                  rw [hlo, hhi]
                  clear hlo hhi
                  have hsb := HSB.out ys.length
                  rw [HS.out] at hsb
                  have hkb : ys.length * 140737488355328 ≤ 60 * 140737488355328 := Nat.mul_le_mul_right _ (by omega)
                  obtain ⟨P, hP⟩ : ∃ P, m * (ys.length : Int) = P := ⟨_, rfl⟩
                  rw [hP] at hmn
                  have hw1 : IntKind.i64.wrap (m * (ys.length : Int)) = P := by rw [hP]; exact IntWalk.i64_in _ (by omega)
                  have hw2 : IntKind.i64.wrap (P - S) = P - S := IntWalk.i64_in _ (by omega)
                  obtain ⟨D, hD⟩ : ∃ D, P - S = D := ⟨_, rfl⟩
                  rw [hD] at hw2 hmn
                  have hw3 : IntKind.i64.wrap (2 * D) = 2 * D := IntWalk.i64_in _ (by omega)
                  obtain ⟨E, hE⟩ : ∃ E, 2 * D = E := ⟨_, rfl⟩
                  rw [hE] at hw3 hmn
                  have hw4 : IntKind.i64.wrap (-(ys.length : Int)) = -(ys.length : Int) := IntWalk.i64_in _ (by omega)
                  have hm1 : ¬ m < lo := by omega
                  have hm2 : ¬ hi < m := by omega
                  have hm3 : ¬ (ys.length : Int) < E := by omega
                  have hm4 : ¬ E < -(ys.length : Int) := by omega
                  have c1_0 := F8.out.c 1 0 rfl rfl
                  have c1_1 := F8.out.c 1 1 rfl rfl
                  have hget : [Value.int .i64 m][0]? = some (.int .i64 m) := rfl
                  have hrm := (F8.out.rc 2 0 rfl hget).1
                  clear hget
                  go_upto_region 28 with fail
                  clear hrm hw1 hw2 hw3 hw4 hm1 hm2 hm3 hm4 hP hD hE hma hmn c1_0 c1_1
                  have hsu := HSU.out ab cb
                  clear HSU
                  have hSb : S.natAbs ≤ 60 * 140737488355328 := Nat.le_trans hsb hkb
                  clear hsb hkb
                  have c0_0 := F8.out.c 0 0 rfl rfl
                  have c0_1 := F8.out.c 0 1 rfl rfl
                  have c0_2 := F8.out.c 0 2 rfl rfl
                  have c0_3 := F8.out.c 0 3 rfl rfl
                  cases hsw : isW S with
                  | true =>
                    rw [hsw, if_pos rfl, zL_0] at hsu
                    go_upto_region 29 with (first | (go_at_call 10; refine (hsu W8 (F8.out.lw 0 rfl) (F8.out.lw 1 rfl) (F8.out.li 0 (k := .i64) (xs := axN xs.length) rfl HAW.out)).mono ?_; rintro e w9 ⟨at_, ct, bt, dt, rfl, hf⟩; have F9 := Lib.hid (F8.out.join hf); simp only [List.cons_append, List.nil_append] at F9; clear hf F8 c0_0 c0_1 c0_2 c0_3) | fail)
                    simp only [List.length_cons, List.length_nil, Nat.reduceAdd, Nat.zero_add, List.map_nil, List.map_cons] at F9
                    (try simp only [List.length_cons, List.length_nil, Nat.reduceAdd, Nat.zero_add])
                    obtain ⟨bt', dt', he, hsh⟩ := own_shape (F9.out.r 4 rfl)
                    simp only [Value.slice.injEq] at he
                    obtain ⟨rfl, _, rfl⟩ := he
                    obtain ⟨gt, rfl, _⟩ := hsh.resolve_left (show ¬ (1 : Nat) = 0 from by decide)
                    obtain ⟨Y15, hY15⟩ : ∃ x, w9.heap.size = x := ⟨_, rfl⟩
                    rw [hY15]
                    have F10 := Lib.hid (F9.out.box1 (b := Y15) hY15 [.slice at_ 0 ct, .slice (some ⟨gt, 0, none⟩) 1 dt] 26)
                    simp only [List.nil_append, List.cons_append] at F10
                    obtain ⟨W10, hW10⟩ : ∃ x, (w9.alloc (.cells #[.slice at_ 0 ct, .slice (some ⟨gt, 0, none⟩) 1 dt] 26)) = x := ⟨_, rfl⟩
                    rw [hW10] at F10 ⊢
                    clear hW10 hY15 F9
                    obtain ⟨hx, hq1, hq2, hq3, hq4, hq5⟩ := half_sum hSb
                    have hra := fun W => ref2Add_any hx (S - hx) S W hq3 hq4 hq5
                    have hwe : wordE S = 0 := by unfold wordE; rw [hsw]; rfl
                    rw [hwe] at hra
                    have HRA := Lib.hid hra
                    clear hra hwe hsw hq3 hq4 hq5
                    go_upto_region 30 with (first | (go_at_call 11; refine (HRA.out _).mono ?_; rintro e w11 ⟨he, hb⟩; unfold RetV at he; subst he; have F11 := Lib.hid (F10.out.next hb); clear hb F10) | fail)
                    have c2_0 := F11.out.c 2 0 rfl rfl
                    have c2_1 := F11.out.c 2 1 rfl rfl
                    have hget : [Value.int .i64 S][0]? = some (.int .i64 S) := rfl
                    have hrm := (F11.out.rc 4 0 rfl hget).1
                    clear hget
                    go_wp2_with (first | (go_at_call 9; refine (num9_any _ _).mono ?_; rintro e w' ⟨rfl, rfl⟩) | fail)
                    go_roundw
                    case rel => exact ⟨k + 1, by omega, by go_num, HB.out.trans (F11.out.bel.mono HB.out.size)⟩
                    case measure => simp [intOf]; omega
                  | false =>
                    rw [hsw, if_neg (by decide), zL_ne _ (by decide)] at hsu
                    go_upto_region 29 with (first | (go_at_call 10; refine (hsu W8 (F8.out.lw 0 rfl) (F8.out.lw 1 rfl) (F8.out.li 0 (k := .i64) (xs := axN xs.length) rfl HAW.out)).mono ?_; rintro e w9 ⟨at_, ct, bt, dt, rfl, hf⟩; have F9 := Lib.hid (F8.out.join hf); simp only [List.cons_append, List.nil_append] at F9; clear hf F8 c0_0 c0_1 c0_2 c0_3) | fail)
                    simp only [List.length_cons, List.length_nil, Nat.reduceAdd, Nat.zero_add, List.map_nil, List.map_cons] at F9
                    (try simp only [List.length_cons, List.length_nil, Nat.reduceAdd, Nat.zero_add])
                    obtain ⟨Y15, hY15⟩ : ∃ x, w9.heap.size = x := ⟨_, rfl⟩
                    rw [hY15]
                    have F10 := Lib.hid (F9.out.box1 (b := Y15) hY15 [.slice at_ 0 ct, .slice bt 0 dt] 26)
                    simp only [List.nil_append, List.cons_append] at F10
                    obtain ⟨W10, hW10⟩ : ∃ x, (w9.alloc (.cells #[.slice at_ 0 ct, .slice bt 0 dt] 26)) = x := ⟨_, rfl⟩
                    rw [hW10] at F10 ⊢
                    clear hW10 hY15 F9
                    obtain ⟨hx, hq1, hq2, hq3, hq4, hq5⟩ := half_sum hSb
                    have hra := fun W => ref2Add_any hx (S - hx) S W hq3 hq4 hq5
                    have hwe : wordE S = 3 := by unfold wordE; rw [hsw]; rfl
                    rw [hwe] at hra
                    have HRA := Lib.hid hra
                    clear hra hwe hsw hq3 hq4 hq5
                    go_upto_region 30 with (first | (go_at_call 11; refine (HRA.out _).mono ?_; rintro e w11 ⟨he, hb⟩; unfold RetV at he; subst he; have F11 := Lib.hid (F10.out.next hb); clear hb F10) | fail)
                    have c2_0 := F11.out.c 2 0 rfl rfl
                    have c2_1 := F11.out.c 2 1 rfl rfl
                    go_wp2_with (first | (go_at_call 9; refine (num9_any _ _).mono ?_; rintro e w' ⟨rfl, rfl⟩) | fail)
                    go_roundw
                    case rel => exact ⟨k + 1, by omega, by go_num, HB.out.trans (F11.out.bel.mono HB.out.size)⟩
                    case measure => simp [intOf]; omega
    · have HB := Lib.hid hbel
      clear hbel h
      have WK := fun W => Lib.hid (wakes9_any W)
      by_cases hlt : k < n
      · have hk15 : ¬ (k : Int) < 10 := by omega
        have hkn : (k : Int) < n := by omega
        go_wp2_with (go_at_call 12; refine ((WK _).out).mono ?_; rintro e w1 ⟨rfl, hb⟩; have HW1 := Lib.hid hb; clear hb)
        go_ret
        exact ⟨rfl, HB.out.trans (HW1.out.mono HB.out.size)⟩
      · obtain rfl : k = n := by omega
        go_wp2_with (go_at_call 12; refine ((WK _).out).mono ?_; rintro e w1 ⟨rfl, hb⟩; have HW1 := Lib.hid hb; clear hb)
        go_ret
        exact ⟨rfl, HB.out.trans (HW1.out.mono HB.out.size)⟩
end Go.Proofs.Ytiofodpfjlcebaa
