/- Walks: reduce.closed. -/
import Derived.Test.YtmjcpgfekpedkaaRdS
import Derived.Test.YtmjcpgfekpedkaaRdQ
set_option linter.unusedVariables false
set_option linter.unusedSimpArgs false
namespace Go.Proofs.Ytmjcpgfekpedkaa
open Go.RowKit Go.Rt
/-- One box, made in a drawn region. -/
theorem Fr.one {W w1 : World} (hb : Below W.heap.size W w1) {b : Nat} {vs : List Value} {T : TypeId} (h1 : W.heap.size ≤ b) (o1 : w1.heap[b]? = some (.cells vs.toArray T)) : Fr W.heap.size W w1 [(b, vs)] [] [] [] := by
  refine ⟨hb.size, hb, fun p hp => ?_, List.pairwise_singleton _ _, by simp, by simp, by simp, .nil, by simp, .nil⟩
  obtain rfl := List.mem_singleton.1 hp
  exact ⟨BoxL.of_obj o1, h1, (Array.getElem?_eq_some_iff.1 o1).1⟩
theorem retNew_fr {w w' : World} {xs : List Int} {n : Nat} {e : Ending} (h : RetNew w xs n e w') (hn : 1 ≤ n) : ∃ a c g d, e = .returned (.agg #[.slice a xs.length c, .slice (some ⟨g, 0, none⟩) n d]) ∧
    Fr w.heap.size w w' [] [] [⟨3, .slice a xs.length c, xs.length, xs.map (Value.int .i64)⟩, ⟨2, .slice (some ⟨g, 0, none⟩) n d, n, (List.replicate n (0 : Int)).map (Value.int .i64)⟩] [] := by
  obtain ⟨a, c, b, d, mid, rfl, h1, h2, _, ⟨_, ho⟩, h3, hb⟩ := h
  obtain ⟨a', c', he, hsh⟩ := own_shape h3
  simp only [Value.slice.injEq] at he
  obtain ⟨rfl, _, rfl⟩ := he
  obtain ⟨g, rfl, _⟩ := hsh.resolve_left (by omega)
  refine ⟨a, c, g, d, rfl, hb.size, hb, by simp, .nil, by simp, ?_, by simp, ?_, by simp, .nil⟩
  · intro q hq
    simp only [List.mem_cons, List.not_mem_nil, or_false] at hq
    rcases hq with rfl | rfl
    · exact ho.own
    · exact own_mono h3 h1
  · simp only [List.pairwise_cons, List.mem_cons, List.not_mem_nil, or_false, forall_eq, List.Pairwise.nil, and_true, false_implies, implies_true]
    intro g hg hg2
    have := ho.lt g hg
    have := (h3.lt g hg2).1
    omega
/-- The first j places filled. -/
def fillL (R : Nat → Int) (N j : Nat) : List Int := (List.range N).map fun (i : Nat) => if i < j then R i else 0
theorem fillL_len (R : Nat → Int) (N j : Nat) : (fillL R N j).length = N := by simp [fillL]
theorem fillL_zero (R : Nat → Int) (N : Nat) : fillL R N 0 = List.replicate N 0 := by
  refine List.ext_getElem (by simp [fillL]) fun i h1 h2 => ?_
  simp [fillL]
theorem fillL_all (R : Nat → Int) (N : Nat) : fillL R N N = (List.range N).map R := List.map_congr_left fun i hi => by rw [if_pos (List.mem_range.1 hi)]
theorem fillL_set (R : Nat → Int) {N j : Nat} (h : j < N) : (fillL R N j).set j (R j) = fillL R N (j + 1) := by
  refine List.ext_getElem (by simp [fillL]) fun i h1 h2 => ?_
  rw [List.getElem_set]
  simp only [fillL, List.getElem_map, List.getElem_range]
  by_cases hij : j = i
  · subst hij; rw [if_pos rfl, if_pos (by omega)]
  · rw [if_neg hij]
    by_cases hi : i < j
    · rw [if_pos hi, if_pos (by omega)]
    · rw [if_neg hi, if_neg (by omega)]
def rdZ (R : Nat → Int) (N : Nat) : Int := if ((List.range N).all fun k => isW (R k)) = true then 0 else 3
/-- wide.Round by a number from 1 to 65536. -/
theorem round_cn {s : Int} {cn : Nat} (hs : s.natAbs ≤ 65536 * 140737488355328) (h1 : 1 ≤ cn) (h2 : cn ≤ 65536) : inR (roundI s cn) ∧ ∀ w, Calls Try.prog 37 #[.agg #[.int .i64 (s / 18446744073709551616), .int .u64 (s % 18446744073709551616)], .agg #[.int .i64 ((cn : Int) / 9223372036854775808), .int .u64 ((cn : Int) % 18446744073709551616)]] w (RetWE w (roundI s cn / 18446744073709551616) (roundI s cn % 18446744073709551616) 0) := by
  have hin : inR s := by unfold inR; omega
  have b1 := mean_le (s := s) (n := (cn : Int)) (hi := 9223372036854775808) (by omega) (by have := Int.mul_le_mul_of_nonneg_left (show (1 : Int) ≤ cn by omega) (show (0 : Int) ≤ 9223372036854775808 by decide); omega)
  have b2 := mean_ge (s := s) (n := (cn : Int)) (lo := -9223372036854775808) (by omega) (by have := Int.mul_le_mul_of_nonneg_left (show (1 : Int) ≤ cn by omega) (show (0 : Int) ≤ 9223372036854775808 by decide); rw [Int.neg_mul]; omega)
  have hr : inR (roundI s cn) := by unfold inR; omega
  have hc := V_from (y := (cn : Int)) (by omega) (by omega)
  refine ⟨hr, fun w => ?_⟩
  have hA : A (s / 18446744073709551616) (s % 18446744073709551616) < 340282366920938463463374607431768211456 ∧ 0 ≤ A (s / 18446744073709551616) (s % 18446744073709551616) := by
    unfold A
    rw [V_split]
    unfold inR at hin
    split <;> omega
  have hA2 : A ((cn : Int) / 9223372036854775808) ((cn : Int) % 18446744073709551616) = cn := by
    unfold A
    rw [hc.1]
    split <;> omega
  have h := (round_of (s / 18446744073709551616) (s % 18446744073709551616) ((cn : Int) / 9223372036854775808) ((cn : Int) % 18446744073709551616) w (WR_split hin) hc.2 (by omega) (fun w => by rw [hA2]; exact divide_lo _ _ w hA.2 hA.1 (by omega) (by omega))).1
  rw [V_split, hc.1] at h
  exact h hr

set_option maxRecDepth 100000 in
set_option maxHeartbeats 2000000 in
theorem closed_any (a : Option Addr) (c Q N cn : Nat) (S : List Int) (SM : Nat → Int) (w : World) (h : Ints .i64 w w.heap.size a S) (hg : goodB S = true) (hN : prodI S = (N : Int)) (hQ : BoxL w Q (wcells SM N)) (hQl : Q < w.heap.size) (hb : ∀ k, (SM k).natAbs ≤ 65536 * 140737488355328) (hc1 : 1 ≤ cn) (hc2 : cn ≤ 65536) :
    Calls Try.prog 43 #[.slice a S.length c, .slice (some ⟨Q, 0, none⟩) N N, .int .i64 (cn : Int)] w (RetTF w (zL (rdZ (fun k => roundI (SM k) cn) N) S) (zL (rdZ (fun k => roundI (SM k) cn) N) ((List.range N).map fun k => roundI (SM k) cn)) (rdZ (fun k => roundI (SM k) cn) N)) := by
  have H0 := Lib.hid h
  have hP := goodB_prod hg
  have hN1 : 1 ≤ N := by omega
  have hN2 : N ≤ 65536 := by omega
  have hcn := fun k => round_cn (hb k) hc1 hc2
  have HCN := Lib.hid hcn
  have hfc := fun W => from_any (cn : Int) W (by omega) (by omega)
  have HFC := Lib.hid hfc
  have HG := Lib.hid hg
  have HQ := Lib.hid hQ
  have hnw := fun W (h : Ints .i64 W W.heap.size a S) => elemNew_any a c S W h hg
  rw [hN, Int.toNat_natCast] at hnw
  have HNW := Lib.hid hnw
  obtain ⟨R, hR⟩ : ∃ R : Nat → Int, (fun k => roundI (SM k) cn) = R := ⟨_, rfl⟩
  have hRk : ∀ k, roundI (SM k) cn = R k := fun k => by rw [← hR]
  have HRK := Lib.hid hRk
  rw [hR]
  obtain ⟨Z, hZ⟩ : ∃ Z, rdZ R N = Z := ⟨_, rfl⟩
  have HZE := Lib.hid hZ
  rw [hZ]
  clear h hP hcn hfc hg hQ hnw hR hRk hZ hb hN
  go_enter Try.func43, Try.ntmps43
  have F1 := Lib.hid ((Fr.start (w := w) (I := [(.i64, a, S)]) (by intro z hz; simp at hz; rcases hz with rfl; exact H0.out)).box1 (b := w.heap.size) rfl [.slice none 0 0, .slice none 0 0] 26)
  simp only [List.nil_append] at F1
  go_upto_region 1 with fail
  obtain ⟨W1, hW1⟩ : ∃ x, w.alloc (.cells #[.slice none 0 0, .slice none 0 0] 26) = x := ⟨_, rfl⟩
  rw [hW1] at F1 ⊢
  clear hW1
  go_upto_region 2 with (go_at_call 33; refine (HNW.out W1 (F1.out.lw 0 rfl)).mono ?_; rintro e w2 hr; obtain ⟨as_, cs_, gd, dd, rfl, hf⟩ := retNew_fr hr hN1; have F2 := Lib.hid (F1.out.join hf); simp only [List.cons_append, List.nil_append] at F2; clear hf hr F1)
  obtain ⟨T8, hT8⟩ : ∃ x, w2.heap.size = x := ⟨_, rfl⟩
  rw [hT8]
  have F3 := Lib.hid (F2.out.box1 (b := T8) hT8 [.slice as_ S.length cs_, .slice (some ⟨gd, 0, none⟩) N dd] 26)
  simp only [List.nil_append, List.cons_append] at F3
  obtain ⟨W3, hW3⟩ : ∃ x, (w2.alloc (.cells #[.slice as_ S.length cs_, .slice (some ⟨gd, 0, none⟩) N dd] 26)) = x := ⟨_, rfl⟩
  rw [hW3] at F3 ⊢
  clear hW3 hT8 F2
  have e0 := fillL_zero R N
  rw [← e0] at F3
  clear e0
  go_wp2
  go_loopw [19] (fun s19 wr => ∃ j : Nat, j ≤ N ∧ s19 = .int .i64 j ∧ Hid (∀ i, i < j → isW (R i) = true) ∧ Hid (Fr w.heap.size w wr [(w.heap.size, [.slice none 0 0, .slice none 0 0]), (T8, [.slice as_ S.length cs_, .slice (some ⟨gd, 0, none⟩) N dd])] [(.i64, a, S)] [⟨3, .slice as_ S.length cs_, S.length, S.map (Value.int .i64)⟩, ⟨2, .slice (some ⟨gd, 0, none⟩) N dd, N, (fillL R N j).map (Value.int .i64)⟩] [])) (fun s19 _ => N - (intOf s19).toNat)
  case atStart => exact ⟨0, Nat.zero_le _, rfl, Lib.hid (by simp), F3⟩
  case round =>
    obtain ⟨j, hj, rfl, HB, F5⟩ := hrel
    clear F3
    obtain ⟨wo, rfl⟩ : ∃ x : World, x = wr := ⟨_, rfl⟩
    by_cases hlt : j < N
    · skip
      have hji : (j : Int) < (N : Int) := by omega
      have q0 := (F5.out.bel.cell (p := ⟨Q, j * 2, none⟩) hQl).trans (HQ.out.cell _ _ (wcells_hi SM N j hlt))
      have q1 := (F5.out.bel.cell (p := ⟨Q, j * 2 + 1, none⟩) hQl).trans (HQ.out.cell _ _ (wcells_lo SM N j hlt))
      obtain ⟨hrn, hrc⟩ := HCN.out j
      rw [HRK.out] at hrn hrc
      obtain ⟨s0, hs0⟩ : ∃ x, SM j = x := ⟨_, rfl⟩
      rw [hs0] at q0 q1 hrc
      obtain ⟨r, hr⟩ : ∃ x, R j = x := ⟨_, rfl⟩
      rw [hr] at hrn hrc
      have hnr := fun W => narrow_any _ _ W (WR_split hrn)
      rw [V_split] at hnr
      have HRC := Lib.hid hrc
      have HNR := Lib.hid hnr
      have HRJ := Lib.hid hr
      clear hrn hrc hs0 hr hnr
      go_upto_region 5 with fail
      clear q0 q1
      obtain ⟨Q10, hQ10⟩ : ∃ x, wo.heap.size = x := ⟨_, rfl⟩
      rw [hQ10]
      have F6 := Lib.hid (F5.out.box1 (b := Q10) hQ10 [.int .i64 (s0 / 18446744073709551616), .int .u64 (s0 % 18446744073709551616)] 77)
      simp only [List.nil_append, List.cons_append] at F6
      obtain ⟨W6, hW6⟩ : ∃ x, (wo.alloc (.cells #[.int .i64 (s0 / 18446744073709551616), .int .u64 (s0 % 18446744073709551616)] 77)) = x := ⟨_, rfl⟩
      rw [hW6] at F6 ⊢
      clear hW6 hQ10 F5
      refine wp_region_parts2 (w := W6) 8 2 (some 6) [] [(fun u _ => u = .agg #[.int .i64 (s0 / 18446744073709551616), .int .u64 (s0 % 18446744073709551616)]), (fun u _ => u = .int .i64 (cn : Int)), (fun u _ => u = .agg #[.int .i64 ((cn : Int) / 9223372036854775808), .int .u64 ((cn : Int) % 18446744073709551616)]), (fun u _ => u = .tuple #[.agg #[.int .i64 (r / 18446744073709551616), .int .u64 (r % 18446744073709551616)], .int .i64 0]), (fun u _ => u = .tuple #[.agg #[.int .i64 (r / 18446744073709551616), .int .u64 (r % 18446744073709551616)], .int .i64 0]), (fun u _ => u = .agg #[.int .i64 (r / 18446744073709551616), .int .u64 (r % 18446744073709551616)]), (fun u _ => u = .int .i64 0), ((IsObj W6.heap.size [.int .i64 0, .int .u64 0] 77))] [some 25, some 26, some 27, some 28, some 24, some 29, some 30, some 11, none, some 12] #[true, true, true, true, true, true, true, true, false, false] #[true, true, true, true, true, true, false, true, false, false] (by kernel_rfl) rfl (by kernel_rfl) (by kernel_rfl) rfl (by kernel_rfl) (by kernel_rfl) (.cons (carries_eq _) (.cons (carries_eq _) (.cons (carries_eq _) (.cons (carries_eq _) (.cons (carries_eq _) (.cons (carries_eq _) (.cons (carries_eq _) (.cons (isObj_carries _ _ _) .nil)))))))) (fun vs b hvl hvb => ?_)
      obtain ⟨x0, x1, x2, x3, x4, x5, x6, x7, x8, x9, rfl⟩ : ∃ x0 x1 x2 x3 x4 x5 x6 x7 x8 x9, vs = [x0, x1, x2, x3, x4, x5, x6, x7, x8, x9] := lst10 hvl
      clear hvl
      simp only [putAll, Act.put, List.setIfInBounds_toArray, List.set_cons_zero, List.set_cons_succ] at hvb
      subst hvb
      refine ⟨(.snoc (.snoc (.snoc (.snoc (.snoc (.snoc (.snoc (.snoc .zero (PartOb.intro (d := (some 25)) (r := fun u _ => u = .agg #[.int .i64 (s0 / 18446744073709551616), .int .u64 (s0 % 18446744073709551616)]) rfl rfl rfl rfl ?po5x0)) (PartOb.intro (d := (some 26)) (r := fun u _ => u = .int .i64 (cn : Int)) rfl rfl rfl rfl ?po5x1)) (PartOb.intro (d := (some 27)) (r := fun u _ => u = .agg #[.int .i64 ((cn : Int) / 9223372036854775808), .int .u64 ((cn : Int) % 18446744073709551616)]) rfl rfl rfl rfl ?po5x2)) (PartOb.intro (d := (some 28)) (r := fun u _ => u = .tuple #[.agg #[.int .i64 (r / 18446744073709551616), .int .u64 (r % 18446744073709551616)], .int .i64 0]) rfl rfl rfl rfl ?po5x3)) (PartOb.intro (d := (some 24)) (r := fun u _ => u = .tuple #[.agg #[.int .i64 (r / 18446744073709551616), .int .u64 (r % 18446744073709551616)], .int .i64 0]) rfl rfl rfl rfl ?po5x4)) (PartOb.intro (d := (some 29)) (r := fun u _ => u = .agg #[.int .i64 (r / 18446744073709551616), .int .u64 (r % 18446744073709551616)]) rfl rfl rfl rfl ?po5x5)) (PartOb.intro (d := (some 30)) (r := fun u _ => u = .int .i64 0) rfl rfl rfl rfl ?po5x6)) (PartOb.intro (d := (some 11)) (r := (IsObj W6.heap.size [.int .i64 0, .int .u64 0] 77)) rfl rfl rfl rfl ?po5x7)), ?pend5, ?pfl5⟩
      case po5x0 =>
        intro w1 hb1 hd KK hK
        clear hd
        have hF := F6.out.next hb1
        have k0 := hF.c 2 0 rfl rfl
        have k1 := hF.c 2 1 rfl rfl
        simp only [Act.put, List.setIfInBounds_toArray, List.set_cons_zero, List.set_cons_succ] at hK
        go_simp
        first | exact hK.out _ _ (Below.refl _ _) rfl | (have hk := hK.out _ _ (Below.refl _ _) rfl; revert hk; go_simp)
      case po5x1 =>
        intro w1 hb1 hd KK hK
        clear hd
        simp only [Act.put, List.setIfInBounds_toArray, List.set_cons_zero, List.set_cons_succ] at hK
        go_simp
        first | exact hK.out _ _ (Below.refl _ _) rfl | (have hk := hK.out _ _ (Below.refl _ _) rfl; revert hk; go_simp)
      case po5x2 =>
        intro w1 hb1 hd KK hK
        have d1 : x1 = .int .i64 (cn : Int) := hd 1 (by kernel_rfl)
        clear hd
        subst d1
        simp only [Act.put, List.setIfInBounds_toArray, List.set_cons_zero, List.set_cons_succ] at hK
        go_simp
        go_at_call 36
        refine (HFC.out w1).mono ?_
        rintro e w2 ⟨rfl, hb⟩
        (try go_wp2_with fail)
        first | exact hK.out _ _ hb rfl | (have hk := hK.out _ _ hb rfl; revert hk; go_simp)
      case po5x3 =>
        intro w1 hb1 hd KK hK
        have d0 : x0 = .agg #[.int .i64 (s0 / 18446744073709551616), .int .u64 (s0 % 18446744073709551616)] := hd 0 (by kernel_rfl)
        have d2 : x2 = .agg #[.int .i64 ((cn : Int) / 9223372036854775808), .int .u64 ((cn : Int) % 18446744073709551616)] := hd 2 (by kernel_rfl)
        clear hd
        subst d0
        subst d2
        simp only [Act.put, List.setIfInBounds_toArray, List.set_cons_zero, List.set_cons_succ] at hK
        go_simp
        go_at_call 37
        refine (HRC.out w1).mono ?_
        rintro e w2 ⟨rfl, hb⟩
        (try go_wp2_with fail)
        first | exact hK.out _ _ hb rfl | (have hk := hK.out _ _ hb rfl; revert hk; go_simp)
      case po5x4 =>
        intro w1 hb1 hd KK hK
        have d3 : x3 = .tuple #[.agg #[.int .i64 (r / 18446744073709551616), .int .u64 (r % 18446744073709551616)], .int .i64 0] := hd 3 (by kernel_rfl)
        clear hd
        subst d3
        simp only [Act.put, List.setIfInBounds_toArray, List.set_cons_zero, List.set_cons_succ] at hK
        go_simp
        first | exact hK.out _ _ (Below.refl _ _) rfl | (have hk := hK.out _ _ (Below.refl _ _) rfl; revert hk; go_simp)
      case po5x5 =>
        intro w1 hb1 hd KK hK
        have d4 : x4 = .tuple #[.agg #[.int .i64 (r / 18446744073709551616), .int .u64 (r % 18446744073709551616)], .int .i64 0] := hd 4 (by kernel_rfl)
        clear hd
        subst d4
        simp only [Act.put, List.setIfInBounds_toArray, List.set_cons_zero, List.set_cons_succ] at hK
        go_simp
        first | exact hK.out _ _ (Below.refl _ _) rfl | (have hk := hK.out _ _ (Below.refl _ _) rfl; revert hk; go_simp)
      case po5x6 =>
        intro w1 hb1 hd KK hK
        have d4 : x4 = .tuple #[.agg #[.int .i64 (r / 18446744073709551616), .int .u64 (r % 18446744073709551616)], .int .i64 0] := hd 4 (by kernel_rfl)
        clear hd
        subst d4
        simp only [Act.put, List.setIfInBounds_toArray, List.set_cons_zero, List.set_cons_succ] at hK
        go_simp
        first | exact hK.out _ _ (Below.refl _ _) rfl | (have hk := hK.out _ _ (Below.refl _ _) rfl; revert hk; go_simp)
      case po5x7 =>
        intro w1 hb1 hd KK hK
        clear hd
        simp only [Act.put, List.setIfInBounds_toArray, List.set_cons_zero, List.set_cons_succ] at hK
        go_simp
        first | exact hK.out _ _ ((Below.refl _ _).alloc (Nat.le_refl _) _) (isObj_new _ _ _ w1 hb1.size) | (have hk := hK.out _ _ ((Below.refl _ _).alloc (Nat.le_refl _) _) (isObj_new _ _ _ w1 hb1.size); revert hk; go_simp)
      case pend5 =>
        intro w1 hb1 hR hD
        have d0 : x0 = .agg #[.int .i64 (s0 / 18446744073709551616), .int .u64 (s0 % 18446744073709551616)] := hR 0 (by decide)
        have d1 : x1 = .int .i64 (cn : Int) := hR 1 (by decide)
        have d2 : x2 = .agg #[.int .i64 ((cn : Int) / 9223372036854775808), .int .u64 ((cn : Int) % 18446744073709551616)] := hR 2 (by decide)
        have d3 : x3 = .tuple #[.agg #[.int .i64 (r / 18446744073709551616), .int .u64 (r % 18446744073709551616)], .int .i64 0] := hR 3 (by decide)
        have d4 : x4 = .tuple #[.agg #[.int .i64 (r / 18446744073709551616), .int .u64 (r % 18446744073709551616)], .int .i64 0] := hR 4 (by decide)
        have d5 : x5 = .agg #[.int .i64 (r / 18446744073709551616), .int .u64 (r % 18446744073709551616)] := hR 5 (by decide)
        have d6 : x6 = .int .i64 0 := hR 6 (by decide)
        have d7 : (IsObj W6.heap.size [.int .i64 0, .int .u64 0] 77) x7 w1 := hR 7 (by decide)
        clear hR hD
        subst d0
        subst d1
        subst d2
        subst d3
        subst d4
        subst d5
        subst d6
        obtain ⟨b7, rfl, hl7, ho7⟩ := d7
        refine wpAny_ready (rs := [8]) (by kernel_rfl) (by simp) (AllReady.cons rfl (fun KK hK => ?_) AllReady.nil)
        have G3 := F6.out.join2 (Fr.one hb1 hl7 ho7)
        simp only [List.cons_append, List.nil_append, List.append_nil] at G3
        have k0 := G3.c 3 0 rfl rfl
        have k1 := G3.c 3 1 rfl rfl
        have kf0 := G3.f 3 0 rfl rfl
        have kf1 := G3.f 3 1 rfl rfl
        go_simp
        refine hK _ _ ?_
        clear hK KK
        try simp only [putAll, Act.put, List.setIfInBounds_toArray, List.set_cons_zero, List.set_cons_succ]
        refine wpAny_ready (rs := [9]) (by kernel_rfl) (by simp) (AllReady.cons rfl (fun KK hK => ?_) AllReady.nil)
        go_simp
        refine hK _ _ ?_
        clear hK KK
        try simp only [putAll, Act.put, List.setIfInBounds_toArray, List.set_cons_zero, List.set_cons_succ]
        refine wpAny_done (by kernel_rfl) ?_ _
        have F7 := Lib.hid (G3.set 3 rfl (by simp) [.int .i64 (r / 18446744073709551616), .int .u64 (r % 18446744073709551616)] rfl)
        simp only [setL, Nat.reduceAdd, List.set_cons_zero, List.set_cons_succ] at F7
        obtain ⟨W7, hW7⟩ : ∃ x, (w1.setCell ⟨b7, 0, none⟩ (.int .i64 (r / 18446744073709551616))).setCell ⟨b7, 1, none⟩ (.int .u64 (r % 18446744073709551616)) = x := ⟨_, rfl⟩
        rw [hW7] at F7 ⊢
        clear hW7 G3 k0 k1 kf0 kf1 hb1 hl7 ho7 F6
        have c3_0 := F7.out.c 3 0 rfl rfl
        have c3_1 := F7.out.c 3 1 rfl rfl
        go_upto_region 7 with (go_at_call 38; refine (HNR.out _).mono ?_; rintro e w8 ⟨he, hb⟩; unfold RetV at he; subst he; have F8 := Lib.hid (F7.out.next hb); clear hb F7 c3_0 c3_1)
        cases hw : isW r with
        | false =>
          have hv : wordE r = 3 := by unfold wordE; rw [hw]; rfl
          have hzz : Z = 3 := by rw [← HZE.out]; unfold rdZ; rw [if_neg]; intro hq; have := List.all_eq_true.1 hq j (List.mem_range.2 hlt); rw [HRJ.out, hw] at this; cases this
          rw [hv]
          obtain rfl := hzz
          clear hw hv HZE HB HRJ
          have c0_0 := F8.out.c 0 0 rfl rfl
          have c0_1 := F8.out.c 0 1 rfl rfl
          have cf0_0 := F8.out.f 0 0 rfl rfl
          have cf0_1 := F8.out.f 0 1 rfl rfl
          go_wp2
          have FZ := F8.out.set 0 rfl (by simp) [.slice none 0 0, .slice none 0 0] rfl
          simp only [setL, Nat.reduceAdd, List.set_cons_zero, List.set_cons_succ] at FZ
          have y0 := FZ.c 0 0 rfl rfl
          have y1 := FZ.c 0 1 rfl rfl
          refine bodyPost_ret (v := .tuple #[.agg #[.slice none 0 0, .slice none 0 0], .int .i64 3]) ?_ rfl (retTF_none (FZ.less (.refl _) (.refl _) (List.nil_sublist _) (.refl _)))
          rw [results_ctZ rfl]
          go_simp
        | true =>
          have hv : wordE r = 0 := by unfold wordE; rw [hw]; rfl
          have hv2 : wordV r = r := by unfold wordV; rw [hw]; rfl
          rw [hv, hv2]
          have HB2 : Hid (∀ i, i < j + 1 → isW (R i) = true) := Lib.hid (fun i hi => (Nat.lt_succ_iff_lt_or_eq.1 hi).elim (fun h => HB.out i h) (fun h => by rw [h, HRJ.out]; exact hw))
          have hfs := fillL_set R hlt
          rw [HRJ.out] at hfs
          have HFS := Lib.hid hfs
          clear hw hv hv2 hfs
          have c1_0 := F8.out.c 1 0 rfl rfl
          have c1_1 := F8.out.c 1 1 rfl rfl
          have hget : ((fillL R N j).map (Value.int .i64))[j]? = some (.int .i64 ((fillL R N j)[j]?.getD 0)) := by rw [List.getElem?_map, List.getElem?_eq_getElem (show j < (fillL R N j).length by rw [fillL_len]; exact hlt)]; rfl
          obtain ⟨r1, r2⟩ := F8.out.rc 1 j rfl hget
          clear hget
          go_wp2
          have F9 := Lib.hid ((F8.out.put 1 j rfl (.int .i64 r)).less (.cons_cons _ (.cons_cons _ (.cons _ (.cons _ .slnil)))) (.refl _) (.refl _) (.refl _))
          simp only [List.set_cons_zero, List.set_cons_succ] at F9
          rw [map_set, HFS.out] at F9
          go_roundw
          case rel => exact ⟨j + 1, by omega, by go_num, HB2, F9⟩
          case measure => simp [intOf]; omega
      case pfl5 =>
        intro f hf hfn w1 hb1 hR hD
        injection hf with hf
        subst hf
        have d0 : x0 = .agg #[.int .i64 (s0 / 18446744073709551616), .int .u64 (s0 % 18446744073709551616)] := hR 0 (by decide) (by decide)
        have d1 : x1 = .int .i64 (cn : Int) := hR 1 (by decide) (by decide)
        have d2 : x2 = .agg #[.int .i64 ((cn : Int) / 9223372036854775808), .int .u64 ((cn : Int) % 18446744073709551616)] := hR 2 (by decide) (by decide)
        have d3 : x3 = .tuple #[.agg #[.int .i64 (r / 18446744073709551616), .int .u64 (r % 18446744073709551616)], .int .i64 0] := hR 3 (by decide) (by decide)
        have d4 : x4 = .tuple #[.agg #[.int .i64 (r / 18446744073709551616), .int .u64 (r % 18446744073709551616)], .int .i64 0] := hR 4 (by decide) (by decide)
        have d5 : x5 = .agg #[.int .i64 (r / 18446744073709551616), .int .u64 (r % 18446744073709551616)] := hR 5 (by decide) (by decide)
        have d7 : (IsObj W6.heap.size [.int .i64 0, .int .u64 0] 77) x7 w1 := hR 7 (by decide) (by decide)
        clear hR hD
        subst d0
        subst d1
        subst d2
        subst d3
        subst d4
        subst d5
        obtain ⟨b7, rfl, hl7, ho7⟩ := d7
        refine wpAny_take (i := 6) (v := .int .i64 0) rfl (by kernel_rfl) (by kernel_rfl) (by kernel_rfl) (fun _ _ _ h => h) (.inl ⟨by rfl, fun w => by go_simp⟩) ?_
        try simp only [putAll, Act.put, List.setIfInBounds_toArray, List.set_cons_zero, List.set_cons_succ]
        refine wpAny_ready (rs := [8]) (by kernel_rfl) (by simp) (AllReady.cons rfl (fun KK hK => ?_) AllReady.nil)
        have G3 := F6.out.join2 (Fr.one hb1 hl7 ho7)
        simp only [List.cons_append, List.nil_append, List.append_nil] at G3
        have k0 := G3.c 3 0 rfl rfl
        have k1 := G3.c 3 1 rfl rfl
        have kf0 := G3.f 3 0 rfl rfl
        have kf1 := G3.f 3 1 rfl rfl
        go_simp
        refine hK _ _ ?_
        clear hK KK
        try simp only [putAll, Act.put, List.setIfInBounds_toArray, List.set_cons_zero, List.set_cons_succ]
        refine wpAny_ready (rs := [9]) (by kernel_rfl) (by simp) (AllReady.cons rfl (fun KK hK => ?_) AllReady.nil)
        go_simp
        refine hK _ _ ?_
        clear hK KK
        try simp only [putAll, Act.put, List.setIfInBounds_toArray, List.set_cons_zero, List.set_cons_succ]
        refine wpAny_done (by kernel_rfl) ?_ _
        have F7 := Lib.hid (G3.set 3 rfl (by simp) [.int .i64 (r / 18446744073709551616), .int .u64 (r % 18446744073709551616)] rfl)
        simp only [setL, Nat.reduceAdd, List.set_cons_zero, List.set_cons_succ] at F7
        obtain ⟨W7, hW7⟩ : ∃ x, (w1.setCell ⟨b7, 0, none⟩ (.int .i64 (r / 18446744073709551616))).setCell ⟨b7, 1, none⟩ (.int .u64 (r % 18446744073709551616)) = x := ⟨_, rfl⟩
        rw [hW7] at F7 ⊢
        clear hW7 G3 k0 k1 kf0 kf1 hb1 hl7 ho7 F6
        have c3_0 := F7.out.c 3 0 rfl rfl
        have c3_1 := F7.out.c 3 1 rfl rfl
        go_upto_region 7 with (go_at_call 38; refine (HNR.out _).mono ?_; rintro e w8 ⟨he, hb⟩; unfold RetV at he; subst he; have F8 := Lib.hid (F7.out.next hb); clear hb F7 c3_0 c3_1)
        cases hw : isW r with
        | false =>
          have hv : wordE r = 3 := by unfold wordE; rw [hw]; rfl
          have hzz : Z = 3 := by rw [← HZE.out]; unfold rdZ; rw [if_neg]; intro hq; have := List.all_eq_true.1 hq j (List.mem_range.2 hlt); rw [HRJ.out, hw] at this; cases this
          rw [hv]
          obtain rfl := hzz
          clear hw hv HZE HB HRJ
          have c0_0 := F8.out.c 0 0 rfl rfl
          have c0_1 := F8.out.c 0 1 rfl rfl
          have cf0_0 := F8.out.f 0 0 rfl rfl
          have cf0_1 := F8.out.f 0 1 rfl rfl
          go_wp2
          have FZ := F8.out.set 0 rfl (by simp) [.slice none 0 0, .slice none 0 0] rfl
          simp only [setL, Nat.reduceAdd, List.set_cons_zero, List.set_cons_succ] at FZ
          have y0 := FZ.c 0 0 rfl rfl
          have y1 := FZ.c 0 1 rfl rfl
          refine bodyPost_ret (v := .tuple #[.agg #[.slice none 0 0, .slice none 0 0], .int .i64 3]) ?_ rfl (retTF_none (FZ.less (.refl _) (.refl _) (List.nil_sublist _) (.refl _)))
          rw [results_ctZ rfl]
          go_simp
        | true =>
          have hv : wordE r = 0 := by unfold wordE; rw [hw]; rfl
          have hv2 : wordV r = r := by unfold wordV; rw [hw]; rfl
          rw [hv, hv2]
          have HB2 : Hid (∀ i, i < j + 1 → isW (R i) = true) := Lib.hid (fun i hi => (Nat.lt_succ_iff_lt_or_eq.1 hi).elim (fun h => HB.out i h) (fun h => by rw [h, HRJ.out]; exact hw))
          have hfs := fillL_set R hlt
          rw [HRJ.out] at hfs
          have HFS := Lib.hid hfs
          clear hw hv hv2 hfs
          have c1_0 := F8.out.c 1 0 rfl rfl
          have c1_1 := F8.out.c 1 1 rfl rfl
          have hget : ((fillL R N j).map (Value.int .i64))[j]? = some (.int .i64 ((fillL R N j)[j]?.getD 0)) := by rw [List.getElem?_map, List.getElem?_eq_getElem (show j < (fillL R N j).length by rw [fillL_len]; exact hlt)]; rfl
          obtain ⟨r1, r2⟩ := F8.out.rc 1 j rfl hget
          clear hget
          go_wp2
          have F9 := Lib.hid ((F8.out.put 1 j rfl (.int .i64 r)).less (.cons_cons _ (.cons_cons _ (.cons _ (.cons _ .slnil)))) (.refl _) (.refl _) (.refl _))
          simp only [List.set_cons_zero, List.set_cons_succ] at F9
          rw [map_set, HFS.out] at F9
          go_roundw
          case rel => exact ⟨j + 1, by omega, by go_num, HB2, F9⟩
          case measure => simp [intOf]; omega
    · obtain rfl : N = j := by omega
      have hzz : Z = 0 := by
        rw [← HZE.out]
        unfold rdZ
        rw [if_pos]
        rw [List.all_eq_true]
        intro i hi
        exact HB.out i (List.mem_range.1 hi)
      obtain rfl := hzz
      have c0_0 := F5.out.c 0 0 rfl rfl
      have c0_1 := F5.out.c 0 1 rfl rfl
      have c1_0 := F5.out.c 1 0 rfl rfl
      have c1_1 := F5.out.c 1 1 rfl rfl
      have cf0_0 := F5.out.f 0 0 rfl rfl
      have cf0_1 := F5.out.f 0 1 rfl rfl
      have hln := fillL_len R N
      go_wp2
      have FZ := F5.out.set 0 rfl (by simp) [.slice as_ S.length cs_, .slice (some ⟨gd, 0, none⟩) N dd] rfl
      simp only [setL, Nat.reduceAdd, List.set_cons_zero, List.set_cons_succ] at FZ
      have y0 := FZ.c 0 0 rfl rfl
      have y1 := FZ.c 0 1 rfl rfl
      refine bodyPost_ret (v := .tuple #[.agg #[.slice as_ S.length cs_, .slice (some ⟨gd, 0, none⟩) N dd], .int .i64 0]) ?_ rfl (by rw [zL_0, zL_0, ← fillL_all]; exact ⟨as_, cs_, some ⟨gd, 0, none⟩, dd, by rw [hln], by rw [hln]; exact FZ.rows⟩)
      rw [results_ctZ rfl]
      go_simp
end Go.Proofs.Ytmjcpgfekpedkaa
