/- Walks: the reference's Reduce. -/
import Derived.Test.YtinboddfmojodaaGreatRxT
set_option linter.unusedVariables false
set_option linter.unusedSimpArgs false
namespace Go.Proofs.YtinboddfmojodaaGreat
open Go.RowKit Go.Rt
attribute [local go_sem] Oper.semAt_some
set_option maxRecDepth 100000 in
set_option maxHeartbeats 4000000 in
theorem rreduce_any (a b a2 : Option Addr) (c d c2 : Nat) (xs ys axes : List Int) (mm : Bool) (w : World) (h : Ints .i64 w w.heap.size a xs) (h2 : Ints .i64 w w.heap.size b ys) (h3 : Ints .i64 w w.heap.size a2 axes) (hck : ckZ xs ys axes = 0) :
    Calls Tryz.prog 7 #[.agg #[.slice a xs.length c, .slice b ys.length d], .slice a2 axes.length c2, .bool mm] w (RetTF w (smX mm xs ys axes) (smY mm xs ys axes) (smZ mm xs ys axes)) := by
  have H0 := Lib.hid h
  have H1 := Lib.hid h2
  have H2 := Lib.hid h3
  obtain ⟨ht, _⟩ := ckZ_ok hck
  have lT := tenB_iff.1 ht
  have hg := lT.1
  have hlen := lT.2.1
  have hx4 := (goodB_iff.1 hg).1
  obtain ⟨b1, b2, b3, b4, b5, b6⟩ := sm_bounds axes ht
  have hgS := restL_good (axes := axes) hg
  have hib := fun n : Int => into_bound axes n hg
  have hle := fun W h h2 => left8_any a a2 c c2 xs axes W h h2 (by omega)
  have hZ : smZ mm xs ys axes = rdZ (smR mm xs ys axes) (smN xs axes) := by unfold smZ; rw [if_pos hck]
  have hX : smX mm xs ys axes = zL (rdZ (smR mm xs ys axes) (smN xs axes)) (restL xs axes) := by unfold smX; rw [hZ]
  have hY : smY mm xs ys axes = zL (rdZ (smR mm xs ys axes) (smN xs axes)) ((List.range (smN xs axes)).map (smR mm xs ys axes)) := by unfold smY; rw [hZ]
  rw [hX, hY, hZ]
  obtain ⟨R, hR⟩ : ∃ R, smR mm xs ys axes = R := ⟨_, rfl⟩
  have hRR : ∀ k, R k = roundI (smS xs ys axes k) (smC mm xs ys axes) := fun k => by rw [← hR]; rfl
  rw [hR]
  obtain ⟨c1, c3⟩ := b6 mm
  have hcc : smC mm xs ys axes = if mm = true then ys.length / smN xs axes else 1 := rfl
  obtain ⟨CC, hCC⟩ : ∃ z, smC mm xs ys axes = z := ⟨_, rfl⟩
  rw [hCC] at hRR c1 c3 hcc
  obtain ⟨N, hN⟩ : ∃ N, smN xs axes = N := ⟨_, rfl⟩
  rw [hN] at b1 b2 b3 hcc ⊢
  rw [b1] at hib
  obtain ⟨G, hG⟩ : ∃ G : Nat → Nat, (fun n : Nat => (intoI xs axes n).toNat) = G := ⟨_, rfl⟩
  have hGI : ∀ n : Nat, intoI xs axes n = (G n : Int) ∧ G n < N := fun n => by
    have := hib n
    rw [← hG]
    exact ⟨by show _ = ((intoI xs axes n).toNat : Int); omega, by show (intoI xs axes n).toNat < N; omega⟩
  have hSS : ∀ k, smS xs ys axes k = sumK G ys k ys.length := fun k => by rw [← hG]; rfl
  obtain ⟨SM, hSM⟩ : ∃ f : Nat → Nat → Int, (fun n k => sumK G ys k n) = f := ⟨_, rfl⟩
  have hSM0 : SM 0 = fun _ => 0 := by rw [← hSM]; rfl
  have hSMs : ∀ n k, (G n ≠ k → SM (n + 1) k = SM n k) ∧ (G n = k → SM (n + 1) k = SM n k + ys[n]?.getD 0) := fun n k => by
    rw [← hSM]
    exact ⟨fun h => sumK_ne h, fun h => by rw [← h]; exact sumK_at⟩
  have hSMb : ∀ n k, (SM n k).natAbs ≤ n * 140737488355328 := fun n k => by
    rw [← hSM]
    exact sumK_bound _ (fun y hy => by have := isW_iff.1 (lT.2.2 y hy); omega) k n
  have hRS : ∀ k, R k = roundI (SM ys.length k) CC := fun k => by rw [hRR k, hSS k, ← hSM]
  obtain ⟨S, hS⟩ : ∃ S, restL xs axes = S := ⟨_, rfl⟩
  rw [hS] at hgS b1 hle ⊢
  have hcn := fun a9 c9 W (h : Ints .i64 W W.heap.size a9 S) => rcount_any a9 c9 (World.heap W).size S W h (goodB_dims hgS)
  rw [countE_good hgS, b1] at hcn
  have hwl : ∀ x ∈ S, (Lit.int .i64 x).wf = true := wf_dims (fun x hx => by have := goodB_dims hgS x hx; omega)
  have hP := goodB_prod hg
  have hin := fun W (k : Nat) h h2 (hk : k < ys.length) => into8_any a a2 c c2 xs axes (k : Int) W h h2 hg (by omega) (by omega)
  have hZE : rdZ R N = if ((List.range N).all fun k => isW (R k)) = true then 0 else 3 := rfl
  obtain ⟨Z, hZZ⟩ : ∃ z, rdZ R N = z := ⟨_, rfl⟩
  rw [hZZ] at hZE ⊢
  have hWY : ∀ k : Nat, isW (ys[k]?.getD 0) = true := fun k => by
    by_cases hk : k < ys.length
    · rw [List.getElem?_eq_getElem hk]; exact lT.2.2 _ (List.getElem_mem hk)
    · rw [List.getElem?_eq_none (by omega)]; decide
  have HGI := Lib.hid hGI
  have HWL := Lib.hid hwl
  have HLE := Lib.hid hle
  have HCN := Lib.hid hcn
  have HS0 := Lib.hid hSM0
  have HSS := Lib.hid hSMs
  have HSB := Lib.hid hSMb
  have HRS := Lib.hid hRS
  have HIN := Lib.hid hin
  have HZE := Lib.hid hZE
  have HWY := Lib.hid hWY
  have HCC := Lib.hid hcc
  have hM2 : ys.length ≤ 65536 := by omega
  have hN2 : N ≤ 65536 := by omega
  clear h h2 h3 hck ht lT hg hlen b1 b3 b4 b5 b6 hgS hib hle hZ hX hY hR hRR hcc hCC hN hG hGI hSS hSM hSM0 hSMs hSMb hRS hS hcn hwl hP hin hZE hZZ hWY
  go_enter Tryz.func7, Tryz.ntmps7
  have F1 := Lib.hid (((Fr.start (w := w) (I := [(.i64, a, xs), (.i64, b, ys), (.i64, a2, axes)]) (by intro z hz; simp at hz; rcases hz with rfl | rfl | rfl; exact H0.out; exact H1.out; exact H2.out)).box1 (b := w.heap.size) (by simp) [.slice a xs.length c, .slice b ys.length d] 26).box1 (b := w.heap.size + 1) (by simp) [.slice none 0 0, .slice none 0 0] 26)
  simp only [List.nil_append, List.cons_append] at F1
  go_upto_region 1 with fail
  obtain ⟨W1, hW1⟩ : ∃ W1, ((w.alloc (.cells #[.slice a xs.length c, .slice b ys.length d] 26)).alloc (.cells #[.slice none 0 0, .slice none 0 0] 26)) = W1 := ⟨_, rfl⟩
  rw [hW1] at F1 ⊢
  clear hW1
  have c0_0 := F1.out.c 0 0 rfl rfl
  have c0_1 := F1.out.c 0 1 rfl rfl
  go_upto_region 2 with (first | (go_at_call 20; refine (HLE.out _ (F1.out.lw 0 rfl) (F1.out.lw 2 rfl)).mono ?_; rintro e w3 ⟨v, rfl, hown, hb⟩; obtain ⟨as_, cs_, rfl, _⟩ := own_shape hown; have F3 := Lib.hid (F1.out.addO hb hown); simp only [List.nil_append] at F3; clear hown hb F1 c0_0 c0_1) | fail)
  obtain ⟨Q, hQ⟩ : ∃ Q, w3.heap.size = Q := ⟨_, rfl⟩
  have F4 := Lib.hid (F3.out.box1 (b := Q) hQ (ncells (fun _ => none) (fun _ => 0) (fun _ => 0) N) 56)
  have e4 : (ncells (fun _ => none) (fun _ => 0) (fun _ => 0) N).toArray = madeCells (Value.agg #[.bool false, .slice none 0 0]).cells (N * 2) := by rw [← made_ints]
  rw [e4] at F4
  simp only [List.nil_append, List.cons_append] at F4
  clear e4
  obtain ⟨W4, hW4⟩ : ∃ x, w3.alloc (.cells (madeCells (Value.agg #[.bool false, .slice none 0 0]).cells (N * 2)) 56) = x := ⟨_, rfl⟩
  rw [hW4] at F4
  have HW4 := Lib.hid hW4
  clear hW4
  go_upto_region 3 with (first | (go_at_call 18; refine (HCN.out as_ cs_ _ (F3.out.li 0 (k := .i64) (xs := S) rfl HWL.out)).mono ?_; rintro e w' ⟨rfl, rfl⟩) | (at_make; (refine wpl_makeD 51 56 (.agg #[.bool false, .slice none 0 0]) 2 32 (by omega) infoZ Tryz.underlying51 N _ _ _ _ rfl rfl rfl rfl rfl rfl (by omega) ?_); rw [HW4.out, hQ]) | fail)
  clear F3 HW4 hQ
  have F5 : Hid (Fr w.heap.size w W4 [(w.heap.size, [.slice a xs.length c, .slice b ys.length d]), (w.heap.size + 1, [.slice none 0 0, .slice none 0 0]), (Q, ncells (fun _ => none) (fun _ => 0) (SM 0) N)] [(.i64, a, xs), (.i64, b, ys), (.i64, a2, axes)] [⟨3, .slice as_ S.length cs_, S.length, S.map (Value.int .i64)⟩] []) := Lib.hid (by rw [HS0.out]; exact F4.out)
  have HN5 : Hid (∀ j, j < N → NAt W4 W4.heap.size ((fun _ => none : Nat → Option Addr) j) ((fun _ => 0 : Nat → Nat) j) (SM 0 j).natAbs) := Lib.hid (by rw [HS0.out]; intro j _; exact nat_none _)
  clear F4
  go_wp2_with fail
  go_loopw [10] (fun i wr => ∃ (k : Nat) (A : Nat → Option Addr) (C : Nat → Nat), k ≤ ys.length ∧ i = .int .i64 k ∧ Hid (∀ j, j < N → NAt wr wr.heap.size (A j) (C j) (SM k j).natAbs) ∧ Hid (Fr w.heap.size w wr [(w.heap.size, [.slice a xs.length c, .slice b ys.length d]), (w.heap.size + 1, [.slice none 0 0, .slice none 0 0]), (Q, ncells A C (SM k) N)] [(.i64, a, xs), (.i64, b, ys), (.i64, a2, axes)] [⟨3, .slice as_ S.length cs_, S.length, S.map (Value.int .i64)⟩] [])) (fun i _ => ys.length - (intOf i).toNat)
  case atStart => exact ⟨0, _, _, Nat.zero_le _, rfl, HN5, F5⟩
  case round =>
    obtain ⟨k, A, C, hk, rfl, HNA, F8⟩ := hrel
    clear F5 HN5
    obtain ⟨wi, rfl⟩ : ∃ x : World, x = wr := ⟨_, rfl⟩
    have c0_0 := F8.out.c 0 0 rfl rfl
    have c0_1 := F8.out.c 0 1 rfl rfl
    by_cases hlk : k < ys.length
    · skip
      obtain ⟨hgi, hgn⟩ := HGI.out k
      obtain ⟨g, hg⟩ : ∃ g, G k = g := ⟨_, rfl⟩
      rw [hg] at hgi hgn
      have hin := fun W h h2 => HIN.out W k h h2 hlk
      rw [hgi] at hin
      have HINK := Lib.hid hin
      have hki : (k : Int) < (ys.length : Int) := by omega
      have hgi2 : (g : Int) < (N : Int) := by omega
      have HGK := Lib.hid hg
      clear hin hgi hg
      go_upto_region 7 with (first | (go_at_call 21; refine (HINK.out _ (F8.out.lw 0 rfl) (F8.out.lw 2 rfl)).mono ?_; rintro e w9 ⟨rfl, hb⟩; have F9 := Lib.hid (F8.out.next hb); have HN9 := Lib.hid (fun j hj => (HNA.out j hj).next hb); clear hb F8 HNA c0_0 c0_1) | fail)
      obtain ⟨gb, ob, rfl, hlb, hcy⟩ := (F9.out.l 1 rfl).cell k hlk
      obtain ⟨y, hy⟩ : ∃ x, ys[k]?.getD 0 = x := ⟨_, rfl⟩
      rw [hy] at hcy
      have hsk := HSS.out k
      rw [hy, HGK.out] at hsk
      have hyw := HWY.out k
      rw [hy] at hyw
      have hyb := isW_iff.1 hyw
      have hsb := HSB.out k g
      have hkb : k * 140737488355328 ≤ 65536 * 140737488355328 := Nat.mul_le_mul_right _ (by omega)
      have HF1 := Lib.hid (fun W => zfrom_any y W (by omega) (by omega))
      have HP4 := Lib.hid (fun p q c d W h h2 => zplus_any p q c d (SM k g) y (SM (k + 1) g) W h h2 (dig_word (by omega)) (dig_word (by omega)) ((hsk g).2 rfl).symm)
      have HSK := Lib.hid hsk
      have HCY := Lib.hid hcy
      have HNG := Lib.hid (HN9.out g hgn)
      have hnq := ncells_neg A C (SM k) N g hgn
      have hmq := ncells_mag A C (SM k) N g hgn
      have HNQ := Lib.hid hnq
      have HMQ := Lib.hid hmq
      clear hy hcy hsk hyw hyb hsb hkb hnq hmq
      obtain ⟨wq, rfl⟩ : ∃ x : World, x = w9 := ⟨_, rfl⟩
      refine wp_region_parts2 (w := wq) 13 2 none [] [(fun u _ => u = .slice (some ⟨Q, 0, none⟩) N N), (fun u _ => u = .int .i64 (g : Int)), (fun u _ => u = .slice (some ⟨Q, 0, none⟩) N N), (fun u _ => u = .int .i64 (g : Int)), (fun u _ => u = .pointer (some ⟨Q, g * 2, none⟩)), (fun u _ => u = .agg #[.bool (decide (SM k g < 0)), .slice (A g) (dig 18446744073709551616 (SM k g).natAbs).length (C g)]), (fun u _ => u = .pointer (some ⟨w.heap.size, 1, none⟩)), (fun u _ => u = .slice (some ⟨gb, ob, none⟩) ys.length d), (fun u _ => u = .int .i64 (k : Int)), (fun u _ => u = .pointer (some ⟨gb, ob + k, none⟩)), (fun u _ => u = .int .i64 y), ((IsZ y)), ((IsZ (SM (k + 1) g)))] [some 36, some 37, some 38, some 39, some 40, some 41, some 42, some 43, some 44, some 45, some 46, some 47, some 48, some 49, none] #[true, true, true, true, true, true, true, true, true, true, true, true, true, false, false] #[true, true, true, true, true, true, true, true, true, true, true, true, true, false, false] (by kernel_rfl) rfl (by kernel_rfl) (by kernel_rfl) rfl (by kernel_rfl) (by kernel_rfl) (.cons (carries_eq _) (.cons (carries_eq _) (.cons (carries_eq _) (.cons (carries_eq _) (.cons (carries_eq _) (.cons (carries_eq _) (.cons (carries_eq _) (.cons (carries_eq _) (.cons (carries_eq _) (.cons (carries_eq _) (.cons (carries_eq _) (.cons (isZ_carries _) (.cons (isZ_carries _) .nil))))))))))))) (fun vs b hvl hvb => ?_)
      obtain ⟨x0, x1, x2, x3, x4, x5, x6, x7, x8, x9, x10, x11, x12, x13, x14, rfl⟩ : ∃ x0 x1 x2 x3 x4 x5 x6 x7 x8 x9 x10 x11 x12 x13 x14, vs = [x0, x1, x2, x3, x4, x5, x6, x7, x8, x9, x10, x11, x12, x13, x14] := lst15 hvl
      clear hvl
      simp only [putAll, Act.put, List.setIfInBounds_toArray, List.set_cons_zero, List.set_cons_succ] at hvb
      subst hvb
      refine ⟨(.snoc (.snoc (.snoc (.snoc (.snoc (.snoc (.snoc (.snoc (.snoc (.snoc (.snoc (.snoc (.snoc .zero (PartOb.intro (d := (some 36)) (r := fun u _ => u = .slice (some ⟨Q, 0, none⟩) N N) rfl rfl rfl rfl ?po7x0)) (PartOb.intro (d := (some 37)) (r := fun u _ => u = .int .i64 (g : Int)) rfl rfl rfl rfl ?po7x1)) (PartOb.intro (d := (some 38)) (r := fun u _ => u = .slice (some ⟨Q, 0, none⟩) N N) rfl rfl rfl rfl ?po7x2)) (PartOb.intro (d := (some 39)) (r := fun u _ => u = .int .i64 (g : Int)) rfl rfl rfl rfl ?po7x3)) (PartOb.intro (d := (some 40)) (r := fun u _ => u = .pointer (some ⟨Q, g * 2, none⟩)) rfl rfl rfl rfl ?po7x4)) (PartOb.intro (d := (some 41)) (r := fun u _ => u = .agg #[.bool (decide (SM k g < 0)), .slice (A g) (dig 18446744073709551616 (SM k g).natAbs).length (C g)]) rfl rfl rfl rfl ?po7x5)) (PartOb.intro (d := (some 42)) (r := fun u _ => u = .pointer (some ⟨w.heap.size, 1, none⟩)) rfl rfl rfl rfl ?po7x6)) (PartOb.intro (d := (some 43)) (r := fun u _ => u = .slice (some ⟨gb, ob, none⟩) ys.length d) rfl rfl rfl rfl ?po7x7)) (PartOb.intro (d := (some 44)) (r := fun u _ => u = .int .i64 (k : Int)) rfl rfl rfl rfl ?po7x8)) (PartOb.intro (d := (some 45)) (r := fun u _ => u = .pointer (some ⟨gb, ob + k, none⟩)) rfl rfl rfl rfl ?po7x9)) (PartOb.intro (d := (some 46)) (r := fun u _ => u = .int .i64 y) rfl rfl rfl rfl ?po7x10)) (PartOb.intro (d := (some 47)) (r := (IsZ y)) rfl rfl rfl rfl ?po7x11)) (PartOb.intro (d := (some 48)) (r := (IsZ (SM (k + 1) g))) rfl rfl rfl rfl ?po7x12)), ?pend7, ?pfl7⟩
      case po7x0 =>
        intro w1 hb1 hd KK hK
        clear hd
        simp only [Act.put, List.setIfInBounds_toArray, List.set_cons_zero, List.set_cons_succ] at hK
        go_simp
        first | exact hK.out _ _ (Below.refl _ _) rfl | (have hk := hK.out _ _ (Below.refl _ _) rfl; revert hk; go_simp)
      case po7x1 =>
        intro w1 hb1 hd KK hK
        clear hd
        simp only [Act.put, List.setIfInBounds_toArray, List.set_cons_zero, List.set_cons_succ] at hK
        go_simp
        first | exact hK.out _ _ (Below.refl _ _) rfl | (have hk := hK.out _ _ (Below.refl _ _) rfl; revert hk; go_simp)
      case po7x2 =>
        intro w1 hb1 hd KK hK
        clear hd
        simp only [Act.put, List.setIfInBounds_toArray, List.set_cons_zero, List.set_cons_succ] at hK
        go_simp
        first | exact hK.out _ _ (Below.refl _ _) rfl | (have hk := hK.out _ _ (Below.refl _ _) rfl; revert hk; go_simp)
      case po7x3 =>
        intro w1 hb1 hd KK hK
        clear hd
        simp only [Act.put, List.setIfInBounds_toArray, List.set_cons_zero, List.set_cons_succ] at hK
        go_simp
        first | exact hK.out _ _ (Below.refl _ _) rfl | (have hk := hK.out _ _ (Below.refl _ _) rfl; revert hk; go_simp)
      case po7x4 =>
        intro w1 hb1 hd KK hK
        have d2 : x2 = .slice (some ⟨Q, 0, none⟩) N N := hd 2 (by kernel_rfl)
        have d3 : x3 = .int .i64 (g : Int) := hd 3 (by kernel_rfl)
        clear hd
        subst d2
        subst d3
        simp only [Act.put, List.setIfInBounds_toArray, List.set_cons_zero, List.set_cons_succ] at hK
        go_simp
        first | exact hK.out _ _ (Below.refl _ _) rfl | (have hk := hK.out _ _ (Below.refl _ _) rfl; revert hk; go_simp)
      case po7x5 =>
        intro w1 hb1 hd KK hK
        have d4 : x4 = .pointer (some ⟨Q, g * 2, none⟩) := hd 4 (by kernel_rfl)
        clear hd
        subst d4
        have hF := F9.out.next hb1
        have k0 := hF.c 2 (g * 2) rfl HNQ.out
        have k1 := hF.c 2 (g * 2 + 1) rfl HMQ.out
        simp only [Act.put, List.setIfInBounds_toArray, List.set_cons_zero, List.set_cons_succ] at hK
        go_simp
        first | exact hK.out _ _ (Below.refl _ _) rfl | (have hk := hK.out _ _ (Below.refl _ _) rfl; revert hk; go_simp)
      case po7x6 =>
        intro w1 hb1 hd KK hK
        clear hd
        simp only [Act.put, List.setIfInBounds_toArray, List.set_cons_zero, List.set_cons_succ] at hK
        go_simp
        first | exact hK.out _ _ (Below.refl _ _) rfl | (have hk := hK.out _ _ (Below.refl _ _) rfl; revert hk; go_simp)
      case po7x7 =>
        intro w1 hb1 hd KK hK
        have d6 : x6 = .pointer (some ⟨w.heap.size, 1, none⟩) := hd 6 (by kernel_rfl)
        clear hd
        subst d6
        have hF := F9.out.next hb1
        have k1 := hF.c 0 1 rfl rfl
        simp only [Act.put, List.setIfInBounds_toArray, List.set_cons_zero, List.set_cons_succ] at hK
        go_simp
        first | exact hK.out _ _ (Below.refl _ _) rfl | (have hk := hK.out _ _ (Below.refl _ _) rfl; revert hk; go_simp)
      case po7x8 =>
        intro w1 hb1 hd KK hK
        clear hd
        simp only [Act.put, List.setIfInBounds_toArray, List.set_cons_zero, List.set_cons_succ] at hK
        go_simp
        first | exact hK.out _ _ (Below.refl _ _) rfl | (have hk := hK.out _ _ (Below.refl _ _) rfl; revert hk; go_simp)
      case po7x9 =>
        intro w1 hb1 hd KK hK
        have d7 : x7 = .slice (some ⟨gb, ob, none⟩) ys.length d := hd 7 (by kernel_rfl)
        have d8 : x8 = .int .i64 (k : Int) := hd 8 (by kernel_rfl)
        clear hd
        subst d7
        subst d8
        simp only [Act.put, List.setIfInBounds_toArray, List.set_cons_zero, List.set_cons_succ] at hK
        go_simp
        first | exact hK.out _ _ (Below.refl _ _) rfl | (have hk := hK.out _ _ (Below.refl _ _) rfl; revert hk; go_simp)
      case po7x10 =>
        intro w1 hb1 hd KK hK
        have d9 : x9 = .pointer (some ⟨gb, ob + k, none⟩) := hd 9 (by kernel_rfl)
        clear hd
        subst d9
        have hcx := ((F9.out.next hb1).bel.cell (p := ⟨gb, ob + k, none⟩) hlb).trans ((F9.out.bel.cell (p := ⟨gb, ob + k, none⟩) hlb).symm.trans HCY.out)
        simp only [Act.put, List.setIfInBounds_toArray, List.set_cons_zero, List.set_cons_succ] at hK
        go_simp
        first | exact hK.out _ _ (Below.refl _ _) rfl | (have hk := hK.out _ _ (Below.refl _ _) rfl; revert hk; go_simp)
      case po7x11 =>
        intro w1 hb1 hd KK hK
        have d10 : x10 = .int .i64 y := hd 10 (by kernel_rfl)
        clear hd
        subst d10
        simp only [Act.put, List.setIfInBounds_toArray, List.set_cons_zero, List.set_cons_succ] at hK
        go_simp
        go_at_call 23
        refine (HF1.out w1).mono ?_
        rintro e w2 ⟨a2_, c2_, rfl, hN2, hb⟩
        (try go_wp2_with fail)
        first | exact hK.out _ _ hb ⟨a2_, c2_, rfl, hN2⟩ | (have hk := hK.out _ _ hb ⟨a2_, c2_, rfl, hN2⟩; revert hk; go_simp)
      case po7x12 =>
        intro w1 hb1 hd KK hK
        have d5 : x5 = .agg #[.bool (decide (SM k g < 0)), .slice (A g) (dig 18446744073709551616 (SM k g).natAbs).length (C g)] := hd 5 (by kernel_rfl)
        have d11 : (IsZ y) x11 w1 := hd 11 (by kernel_rfl)
        clear hd
        subst d5
        obtain ⟨a11z, c11z, rfl, hN11⟩ := d11
        simp only [Act.put, List.setIfInBounds_toArray, List.set_cons_zero, List.set_cons_succ] at hK
        go_simp
        go_at_call 22
        refine (HP4.out _ _ _ _ w1 (HNG.out.next hb1) hN11).mono ?_
        rintro e w2 ⟨a2_, c2_, rfl, hN2, hb⟩
        (try go_wp2_with fail)
        first | exact hK.out _ _ hb ⟨a2_, c2_, rfl, hN2⟩ | (have hk := hK.out _ _ hb ⟨a2_, c2_, rfl, hN2⟩; revert hk; go_simp)
      case pfl7 => (intro f hf; cases hf)
      case pend7 =>
      intro w1 hb1 hR hD
      have d0 : x0 = .slice (some ⟨Q, 0, none⟩) N N := hR 0 (by decide)
      have d1 : x1 = .int .i64 (g : Int) := hR 1 (by decide)
      have d2 : x2 = .slice (some ⟨Q, 0, none⟩) N N := hR 2 (by decide)
      have d3 : x3 = .int .i64 (g : Int) := hR 3 (by decide)
      have d4 : x4 = .pointer (some ⟨Q, g * 2, none⟩) := hR 4 (by decide)
      have d5 : x5 = .agg #[.bool (decide (SM k g < 0)), .slice (A g) (dig 18446744073709551616 (SM k g).natAbs).length (C g)] := hR 5 (by decide)
      have d6 : x6 = .pointer (some ⟨w.heap.size, 1, none⟩) := hR 6 (by decide)
      have d7 : x7 = .slice (some ⟨gb, ob, none⟩) ys.length d := hR 7 (by decide)
      have d8 : x8 = .int .i64 (k : Int) := hR 8 (by decide)
      have d9 : x9 = .pointer (some ⟨gb, ob + k, none⟩) := hR 9 (by decide)
      have d10 : x10 = .int .i64 y := hR 10 (by decide)
      have d11 : (IsZ y) x11 w1 := hR 11 (by decide)
      have d12 : (IsZ (SM (k + 1) g)) x12 w1 := hR 12 (by decide)
      clear hR hD
      subst d0
      subst d1
      subst d2
      subst d3
      subst d4
      subst d5
      subst d6
      subst d7
      subst d8
      subst d9
      subst d10
      obtain ⟨a11z, c11z, rfl, hN11⟩ := d11
      obtain ⟨a12z, c12z, rfl, hN12⟩ := d12
      refine wpAny_ready (rs := [13]) (by kernel_rfl) (by simp) (AllReady.cons rfl (fun KK hK => ?_) AllReady.nil)
      go_simp
      refine hK _ _ ?_
      clear hK KK
      try simp only [putAll, Act.put, List.setIfInBounds_toArray, List.set_cons_zero, List.set_cons_succ]
      refine wpAny_ready (rs := [14]) (by kernel_rfl) (by simp) (AllReady.cons rfl (fun KK hK => ?_) AllReady.nil)
      have G9 := F9.out.next hb1
      have k0 := G9.c 2 (g * 2) rfl HNQ.out
      have k1 := G9.c 2 (g * 2 + 1) rfl HMQ.out
      have f0 := G9.f 2 (g * 2) rfl HNQ.out
      have f1 := G9.f 2 (g * 2 + 1) rfl HMQ.out
      go_simp
      refine hK _ _ ?_
      clear hK KK
      try simp only [putAll, Act.put, List.setIfInBounds_toArray, List.set_cons_zero, List.set_cons_succ]
      refine wpAny_done (by kernel_rfl) ?_ _
      have hst := ncells_set (A := A) (B := updA A g a12z) (C := C) (D := updC C g c12z) (S := SM k) (T := SM (k + 1)) g N hgn (fun j hj hne => ⟨(updA_ne A a12z hne).symm, (updC_ne C c12z hne).symm, ((HSK.out j).1 (fun h => hne h.symm)).symm⟩)
      rw [updA_at, updC_at] at hst
      have F10 := (G9.setC 2 (g * 2) rfl (fun h => by have := congrArg List.length h; rw [ncells_len] at this; simp at this; omega) (.bool (decide (SM (k + 1) g < 0)))).setC 2 (g * 2 + 1) rfl (fun h => by have := congrArg List.length h; rw [List.length_set, ncells_len] at this; simp at this; omega) (.slice a12z (dig 18446744073709551616 (SM (k + 1) g).natAbs).length c12z)
      simp only [List.set_cons_zero, List.set_cons_succ] at F10
      rw [hst] at F10
      have s1 := fun (a9 : Option Addr) (c9 m9 : Nat) (h9 : NAt w1 w1.heap.size a9 c9 m9) => nat_set (q := Q) (o := g * 2 + 1) (v' := .slice a12z (dig 18446744073709551616 (SM (k + 1) g).natAbs).length c12z) (nat_set (q := Q) (o := g * 2) (v' := .bool (decide (SM (k + 1) g < 0))) h9 k0 (by simp)) (v := .slice (A g) (dig 18446744073709551616 (SM k g).natAbs).length (C g)) (by go_simp) (by simp)
      have hN10 : ∀ j, j < N → NAt _ _ (updA A g a12z j) (updC C g c12z j) (SM (k + 1) j).natAbs := fun j hj => by
        by_cases hjg : j = g
        · subst hjg; rw [updA_at, updC_at]; exact s1 _ _ _ hN12
        · rw [updA_ne A a12z hjg, updC_ne C c12z hjg, (HSK.out j).1 (fun h => hjg h.symm)]; exact s1 _ _ _ ((HN9.out j hj).next hb1)
      obtain ⟨W10, hW10⟩ : ∃ x, (w1.setCell ⟨Q, g * 2, none⟩ (.bool (decide (SM (k + 1) g < 0)))).setCell ⟨Q, g * 2 + 1, none⟩ (.slice a12z (dig 18446744073709551616 (SM (k + 1) g).natAbs).length c12z) = x := ⟨_, rfl⟩
      rw [hW10] at F10 hN10 ⊢
      have HF10 := Lib.hid F10
      have HN10 := Lib.hid hN10
      clear hW10 hst s1 F10 hN10 G9 k0 k1 f0 f1 hN11 hN12 F9 HN9 hb1
      go_wp2
      go_roundw
      case rel => exact ⟨k + 1, _, _, by omega, by go_num, HN10, HF10⟩
      case measure => simp [intOf]; omega
    · obtain rfl : k = ys.length := by omega
      have HCE := Lib.hid (show (if mm = true then (ys.length / N : Nat) else 1) = CC from HCC.out.symm)
      go_upto_region 8 with fail
      go_upto_region 9 with fail
      clear c0_0 c0_1
      obtain ⟨X9, hX9⟩ : ∃ x, wi.heap.size = x := ⟨_, rfl⟩
      rw [hX9]
      have G9 := Lib.hid ((F8.out.box1 (b := X9) hX9 [.slice as_ S.length cs_, .slice none 0 0] 26).addNil 2)
      simp only [List.nil_append, List.cons_append] at G9
      have HN9 := Lib.hid (fun j hj => (HNA.out j hj).below ((Below.refl _ _).alloc (Nat.le_refl _) (.cells #[.slice as_ S.length cs_, .slice none 0 0] 26)) (Nat.le_refl _))
      rw [hX9] at HN9
      obtain ⟨W9, hW9⟩ : ∃ x, (wi.alloc (.cells #[.slice as_ S.length cs_, .slice none 0 0] 26)) = x := ⟨_, rfl⟩
      rw [hW9] at G9 HN9 ⊢
      clear hW9 hX9 F8 HNA
      have c0_0 := G9.out.c 0 0 rfl rfl
      have c0_1 := G9.out.c 0 1 rfl rfl
      go_upto_region 10 with fail
      go_upto_if 52 with fail
      go_cut [13] from 13 to 58 (fun s13 wx => s13 = .int .i64 CC ∧ wx = W9)
      case first =>
        cases mm with
        | true =>
          have hz : CC = ys.length / N := by rw [← HCE.out]; rfl
          have hz2 : ((ys.length : Int)).tdiv (N : Int) = ((ys.length / N : Nat) : Int) := by rw [Int.tdiv_eq_ediv_of_nonneg (by omega)]; omega
          go_wp2_with fail
          go_meet
          exact ⟨by rw [hz]; first | exact hz2 | (congr 1) | simp [hz2], rfl⟩
        | false =>
          have hz : CC = 1 := by rw [← HCE.out]; rfl
          go_wp2_with fail
          go_meet
          exact ⟨by rw [hz]; rfl, rfl⟩
      case rest =>
        obtain ⟨rfl, rfl⟩ := hcut
        clear c0_0 c0_1
        have F9 : Hid (Fr w.heap.size w wc [(w.heap.size, [.slice a xs.length c, .slice b ys.length d]), (w.heap.size + 1, [.slice none 0 0, .slice none 0 0]), (Q, ncells A C (SM ys.length) N), (X9, [.slice as_ S.length cs_, .slice none 0 0])] [(.i64, a, xs), (.i64, b, ys), (.i64, a2, axes)] [⟨3, .slice as_ S.length cs_, S.length, S.map (Value.int .i64)⟩, ⟨2, .slice none 0 0, 0, ((List.range 0).map R).map (Value.int .i64)⟩] []) := Lib.hid (by simpa using G9.out)
        clear G9
        obtain ⟨wz, rfl⟩ : ∃ x : World, x = wc := ⟨_, rfl⟩
        go_wp2_with fail
        go_loopw [14] (fun i wr => ∃ (k : Nat) (ab : Option Addr) (cb : Nat), k ≤ N ∧ i = .int .i64 k ∧ Hid (∀ i, i < k → isW (R i) = true) ∧ Hid (∀ j, j < N → NAt wr X9 (A j) (C j) (SM ys.length j).natAbs) ∧ Hid (∀ g, (Value.slice ab k cb).ownBlock = some g → X9 ≤ g) ∧ Hid (Fr w.heap.size w wr [(w.heap.size, [.slice a xs.length c, .slice b ys.length d]), (w.heap.size + 1, [.slice none 0 0, .slice none 0 0]), (Q, ncells A C (SM ys.length) N), (X9, [.slice as_ S.length cs_, .slice ab k cb])] [(.i64, a, xs), (.i64, b, ys), (.i64, a2, axes)] [⟨3, .slice as_ S.length cs_, S.length, S.map (Value.int .i64)⟩, ⟨2, .slice ab k cb, k, ((List.range k).map R).map (Value.int .i64)⟩] [])) (fun i _ => N - (intOf i).toNat)
        case atStart =>
          exact ⟨0, none, 0, Nat.zero_le _, rfl, Lib.hid (by simp), HN9, Lib.hid (by intro g hg; cases hg), F9⟩
        case round =>
          obtain ⟨j, ab, cb, hj, rfl, HG, HNB, HOB, F5⟩ := hrel
          clear F9 HN9
          obtain ⟨wo, rfl⟩ : ∃ x : World, x = wr := ⟨_, rfl⟩
          by_cases hlt : j < N
          · skip
            have hji : (j : Int) < (N : Int) := by omega
            have hsb := HSB.out ys.length j
            have hkb : ys.length * 140737488355328 ≤ 65536 * 140737488355328 := Nat.mul_le_mul_right _ hM2
            have hsx := Nat.le_trans hsb hkb
            have hov := fun p cp W h => over8_any p cp CC (SM ys.length j) W h (by omega) c3 hsx
            have hnr := (sum_near (x := SM ys.length j) (m := CC) (by omega) c3 hsx).2
            have hrs := HRS.out j
            rw [← hrs] at hnr
            obtain ⟨RQ, hRQ⟩ : ∃ y, ratQ (SM ys.length j) CC = y := ⟨_, rfl⟩
            obtain ⟨RK, hRK⟩ : ∃ y, ratK (SM ys.length j) CC = y := ⟨_, rfl⟩
            rw [hRQ, hRK] at hov hnr
            obtain ⟨gj, hgj⟩ : ∃ g, R j = g := ⟨_, rfl⟩
            rw [hgj] at hnr
            have HOV := Lib.hid hov
            have HNR := Lib.hid hnr
            have HGE := Lib.hid hgj
            have k0 := F5.out.c 2 (j * 2) rfl (ncells_neg A C (SM ys.length) N j hlt)
            have k1 := F5.out.c 2 (j * 2 + 1) rfl (ncells_mag A C (SM ys.length) N j hlt)
            clear hsb hkb hsx hov hnr hrs hRQ hRK hgj
            go_upto_region 16 with (first | (go_at_call 25; refine (HOV.out _ _ _ ((HNB.out j hlt).mono (Nat.le_of_lt (F5.out.bl 3 rfl).2))).mono ?_; rintro e w6 ⟨p6, i6, q6, l6, rfl, hN6, hM6, hb⟩; have F6 := Lib.hid (F5.out.next hb); have HN6 := Lib.hid hN6; have HM6 := Lib.hid hM6; have HNC := Lib.hid (fun j hj => (HNB.out j hj).below hb (Nat.le_of_lt (F5.out.bl 3 rfl).2)); clear hb hN6 hM6 F5 HNB k0 k1) | (go_at_call 24; refine (HNR.out _ _ _ _ _ HN6.out HM6.out).mono ?_; rintro e w7 ⟨he, hb⟩; unfold RetV at he; subst he; have F7 := Lib.hid (F6.out.next hb); have HND := Lib.hid (fun j hj => (HNC.out j hj).below hb (Nat.le_of_lt (F6.out.bl 3 rfl).2)); clear hb F6 HNC HN6 HM6) | fail)
            obtain ⟨wq, rfl⟩ : ∃ x : World, x = w7 := ⟨_, rfl⟩
            cases hw : isW gj with
            | false =>
              have hv : wordE gj = 3 := by unfold wordE; rw [hw]; rfl
              have hzz : Z = 3 := by
                rw [HZE.out, if_neg]
                intro hq
                have := List.all_eq_true.1 hq j (List.mem_range.2 hlt)
                rw [HGE.out, hw] at this
                cases this
              rw [hv]
              obtain rfl := hzz
              clear hw hv HZE HG HGE
              have k0 := F7.out.c 1 0 rfl rfl
              have k1 := F7.out.c 1 1 rfl rfl
              have f0 := F7.out.f 1 0 rfl rfl
              have f1 := F7.out.f 1 1 rfl rfl
              go_wp2_with fail
              have FZ := F7.out.set 1 rfl (by simp) [.slice none 0 0, .slice none 0 0] rfl
              simp only [setL, Nat.reduceAdd, List.set_cons_zero, List.set_cons_succ] at FZ
              have y0 := FZ.c 1 0 rfl rfl
              have y1 := FZ.c 1 1 rfl rfl
              refine bodyPost_ret (v := .tuple #[.agg #[.slice none 0 0, .slice none 0 0], .int .i64 3]) ?_ rfl (retTF_none (FZ.less (.refl _) (.refl _) (List.nil_sublist _) (.refl _)))
              rw [results_ctZ rfl]
              go_simp
            | true =>
              have hv : wordE gj = 0 := by unfold wordE; rw [hw]; rfl
              have hv2 : wordV gj = gj := by unfold wordV; rw [hw]; rfl
              rw [hv, hv2]
              have HG2 : Hid (∀ i, i < j + 1 → isW (R i) = true) := Lib.hid (fun i hi => by
                by_cases he : i < j
                · exact HG.out i he
                · obtain rfl : i = j := by omega
                  rw [HGE.out]; exact hw)
              have hra : (List.range (j + 1)).map R = (List.range j).map R ++ [gj] := by rw [List.range_succ, List.map_append, List.map_cons, List.map_nil, HGE.out]
              have HRA := Lib.hid hra
              have hq0 := F7.out.c 3 1 rfl rfl
              have hqf := F7.out.f 3 1 rfl rfl
              have hqb := (F7.out.bl 3 rfl).2
              have hqn : ¬ X9 = wq.heap.size := by omega
              have hjn : j ≤ 1000000 := by omega
              have HJN := Lib.hid hjn
              clear hw hv hv2 hra hjn
              go_wp2_with (at_builtin; refine appendWZ w.heap.size (.slice ab j cb) j ((List.range j).map R) gj _ _ _ rfl rfl rfl (F7.out.r 1 rfl) rfl HJN.out F7.out.hlo ?_; intro v' w8 hown hbel hgr hob; obtain ⟨a8, c8, rfl, _⟩ := own_shape hown; rw [← HRA.out] at hown; have F10 := Lib.hid (F7.out.wroteO 1 rfl hgr hown (fun g hg => by rcases hob with h | h; exact .inl (h.symm.trans hg); exact .inr (by rw [h] at hg; injection hg with hg; omega))); simp only [List.set_cons_zero, List.set_cons_succ] at F10; clear hq0 hqf; have hq0 := F10.out.c 3 1 rfl rfl; have hqf := F10.out.f 3 1 rfl rfl)
              have hXq : X9 ≤ wq.heap.size := Nat.le_of_lt (F7.out.bl 3 rfl).2
              have hbX := ((Below.refl X9 wq).grown hgr hXq (fun g hg => HOB.out g hg)).setCell (p := ⟨X9, 1, none⟩) (Nat.le_refl _) (.slice a8 (j + 1) c8)
              have HF11 := Lib.hid (F10.out.setC 3 1 rfl (by simp) (.slice a8 (j + 1) c8))
              simp only [List.set_cons_zero, List.set_cons_succ] at HF11
              have HNE := Lib.hid (fun j hj => (HND.out j hj).below hbX (Nat.le_refl _))
              have HOE : Hid (∀ g, (Value.slice a8 (j + 1) c8).ownBlock = some g → X9 ≤ g) := Lib.hid (fun g hg => by
                rcases hob with h | h
                · exact HOB.out g (h.symm.trans hg)
                · rw [h] at hg; injection hg with hg; omega)
              exact ⟨⟨j + 1, a8, c8, by omega, by go_num, HG2, HNE, HOE, HF11⟩, by simp [intOf]; omega⟩
          · obtain rfl : j = N := by omega
            have hzz : Z = 0 := by rw [HZE.out, if_pos (List.all_eq_true.2 fun i hi => HG.out i (List.mem_range.1 hi))]
            have k0 := F5.out.c 1 0 rfl rfl
            have k1 := F5.out.c 1 1 rfl rfl
            have f0 := F5.out.f 1 0 rfl rfl
            have f1 := F5.out.f 1 1 rfl rfl
            have e0 := F5.out.c 3 0 rfl rfl
            have e1 := F5.out.c 3 1 rfl rfl
            have HZZ := Lib.hid hzz
            clear hzz HZE HG
            go_wp2_with fail
            have FZ := F5.out.set 1 rfl (by simp) [.slice as_ S.length cs_, .slice ab j cb] rfl
            simp only [setL, Nat.reduceAdd, List.set_cons_zero, List.set_cons_succ] at FZ
            have y0 := FZ.c 1 0 rfl rfl
            have y1 := FZ.c 1 1 rfl rfl
            have hln : ((List.range j).map R).length = j := by simp
            refine bodyPost_ret (v := .tuple #[.agg #[.slice as_ S.length cs_, .slice ab j cb], .int .i64 0]) ?_ rfl (by rw [HZZ.out, zL_0, zL_0]; exact ⟨as_, cs_, ab, cb, by rw [hln], by rw [hln]; exact FZ.rows⟩)
            rw [results_ctZ rfl]
            go_simp
end Go.Proofs.YtinboddfmojodaaGreat
