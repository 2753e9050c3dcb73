/- Walks, taken out of other texts by program: products of matrices (matmul.Mul). -/
import Derived.Test.YtadlnmckcnfacaaCoS
import Derived.BigQuiet
import Derived.Deep.Cut
import Derived.Deep.CutBlock
import Derived.Deep.CutRange
import Derived.Deep.QuietTactic
import Derived.Deep.RegionHeld3
import Derived.Deep.RegionLaw
import Derived.Deep.RegionWith
import Derived.Laws.Cover3
import Derived.WalkMore
set_option linter.unusedVariables false
set_option linter.unusedSimpArgs false
namespace Go.Proofs.Ytadlnmckcnfacaa
open Go.RowKit Go.Rt
theorem outL_wf {xs ys : List Int} (hx : ∀ x ∈ xs, (Lit.int .i64 x).wf = true) (hy : ∀ x ∈ ys, (Lit.int .i64 x).wf = true) (h : 1 ≤ ys.length) : ∀ x ∈ outL xs ys, (Lit.int .i64 x).wf = true := by
  intro x hm
  unfold outL at hm
  rcases List.mem_append.1 hm with h1 | h1
  · exact hx x (List.mem_of_mem_take h1)
  · simp at h1
    rw [h1, List.getElem?_eq_getElem (show ys.length - 1 < ys.length by omega)]
    exact hy _ (List.getElem_mem _)
theorem wrap_nat (q : Nat) (h : q ≤ 9223372036854775807) : RowKit.wrap64 (q : Int) = q := by unfold RowKit.wrap64; omega
theorem ri_facts (R I : Nat) (h1 : 1 ≤ (R : Int)) (h2 : (R : Int) ≤ 4096) (h3 : 1 ≤ (I : Int)) (h4 : (I : Int) ≤ 4096) :
    ∃ RI : Nat, Hid (R * I = RI) ∧ 1 ≤ RI ∧ RI ≤ 16777216 ∧ RowKit.wrap64 ((R : Int) * I) = (RI : Int) ∧ ((RI : Int) == 0) = false ∧ ¬ (RI : Int) = 0 := by
  have a := Nat.mul_le_mul (show 1 ≤ R by omega) (show 1 ≤ I by omega)
  have b := Nat.mul_le_mul (show R ≤ 4096 by omega) (show I ≤ 4096 by omega)
  have e := Int.natCast_mul R I
  generalize R * I = q at *
  have a' : 1 ≤ q := by simpa using a
  have b' : q ≤ 16777216 := by simpa using b
  refine ⟨q, Lib.hid rfl, a', b', ?_, ?_, ?_⟩
  · rw [← e]
    unfold RowKit.wrap64
    omega
  · simp
    omega
  · omega
set_option maxHeartbeats 2000000 in
set_option maxRecDepth 100000 in
theorem mul_good (a b a' b' : Option Addr) (c d c' d' f : Nat) (xsA ysA xsB ysB : List Int) (w : World) (hA : Ints .i64 w w.heap.size a xsA) (hA2 : Ints .i64 w w.heap.size b ysA) (hB : Ints .i64 w w.heap.size a' xsB) (hB2 : Ints .i64 w w.heap.size b' ysB)
    (tA : tenB xsA ysA = true) (tB : tenB xsB ysB = true) (f0 : 8 ≤ f) (f1 : f ≤ 32) (hc : xsA.length ≤ c) (hc' : xsB.length ≤ c') (hcm : c ≤ 9223372036854775807) (hcm' : c' ≤ 9223372036854775807) (hd : ysA.length ≤ d) (hd' : ysB.length ≤ d') (hdm : d ≤ 9223372036854775807) (hdm' : d' ≤ 9223372036854775807) (hz : outE xsA xsB = 0) :
    Calls Try.prog 23 #[.agg #[.slice a xsA.length c, .slice b ysA.length d], .agg #[.slice a' xsB.length c', .slice b' ysB.length d'], .int .i64 f] w (RetTen w (mulX xsA ysA xsB ysB f) (mulY xsA ysA xsB ysB f) (mulE xsA ysA xsB ysB f)) := by
  have gA := (tenB_iff.1 tA).1
  have gB := (tenB_iff.1 tB).1
  have lA := (goodB_iff.1 gA).1
  have lB := (goodB_iff.1 gB).1
  have hfit : fitsB xsA xsB = true := by
    cases h : fitsB xsA xsB with
    | true => rfl
    | false => unfold outE at hz; rw [h] at hz; simp at hz
  have hn : 2 ≤ xsA.length ∧ 2 ≤ xsB.length := by
    unfold fitsB at hfit
    simp at hfit
    omega
  have hgS : goodB (outL xsA xsB) = true := by
    unfold outE at hz
    rw [hfit, if_pos rfl] at hz
    cases h : goodB (outL xsA xsB) with
    | true => rfl
    | false => rw [h] at hz; simp at hz
  have hR : outR xsA xsB = outL xsA xsB := by unfold outR; rw [if_pos hz]
  have hwfS := outL_wf hA.wf hB.wf (by omega)
  obtain ⟨bA, oA, eA, lA1, hcR⟩ := hA.cell (xsA.length - 2) (by omega)
  obtain ⟨bA2, oA2, eA2, _, hcI⟩ := hA.cell (xsA.length - 1) (by omega)
  obtain ⟨bB, oB, eB, lB1, hcC⟩ := hB.cell (xsB.length - 1) (by omega)
  rw [eA] at eA2
  cases eA2
  subst eA
  subst eB
  have hdR := (goodB_dims gA).at (show xsA.length - 2 < xsA.length by omega)
  have hdI := (goodB_dims gA).at (show xsA.length - 1 < xsA.length by omega)
  have hdC := (goodB_dims gB).at (show xsB.length - 1 < xsB.length by omega)
  rw [List.getElem?_eq_getElem (show xsA.length - 2 < xsA.length by omega)] at hcR
  rw [List.getElem?_eq_getElem (show xsA.length - 1 < xsA.length by omega)] at hcI
  rw [List.getElem?_eq_getElem (show xsB.length - 1 < xsB.length by omega)] at hcC
  simp only [Option.getD_some] at hcR hcI hcC
  have hall := fun w' (hb : Below w.heap.size w w') (hq : w'.cell? ⟨w.heap.size + 1 + 1 + 1, 0, none⟩ = some (.slice (some ⟨bA, oA, none⟩) xsA.length c) ∧ w'.cell? ⟨w.heap.size + 1 + 1 + 1, 1, none⟩ = some (.slice b ysA.length d) ∧ w'.cell? ⟨w.heap.size + 1 + 1 + 1, 2, none⟩ = some (.slice (some ⟨bB, oB, none⟩) xsB.length c') ∧ w'.cell? ⟨w.heap.size + 1 + 1 + 1, 3, none⟩ = some (.slice b' ysB.length d')) (hl : w.heap.size + 1 + 1 + 1 < w'.heap.size) =>
    Lib.hid (elemAll_any (w.heap.size + 1 + 1 + 1) (some ⟨bA, oA, none⟩) b (some ⟨bB, oB, none⟩) b' c d c' d' xsA ysA xsB ysB w' hq hl ((hA.below hb (Nat.le_refl _)).mono hb.size) ((hA2.below hb (Nat.le_refl _)).mono hb.size) ((hB.below hb (Nat.le_refl _)).mono hb.size) ((hB2.below hb (Nat.le_refl _)).mono hb.size) tA tB)
  have hgf := fun w => Lib.hid (goodF_any f w)
  rw [decide_eq_true (show (8 : Int) ≤ f by omega), decide_eq_true (show (f : Int) ≤ 32 by omega)] at hgf
  have hout := fun w' (hb : Below w.heap.size w w') => Lib.hid (out_any (some ⟨bA, oA, none⟩) (some ⟨bB, oB, none⟩) c c' xsA xsB w' ((hA.below hb (Nat.le_refl _)).mono hb.size) ((hB.below hb (Nat.le_refl _)).mono hb.size) lA lB hc hc' hcm hcm')
  rw [hR, hz] at hout
  have m1 := hA.len
  have m2 := hA2.len
  have m3 := hB.len
  have m4 := hB2.len
  have ew1 : IntKind.i64.wrap ((xsA.length : Int) - 2) = ((xsA.length - 2 : Nat) : Int) := by rw [wrapI]; omega
  have ew2 : IntKind.i64.wrap ((xsA.length : Int) - 1) = ((xsA.length - 1 : Nat) : Int) := by rw [wrapI]; omega
  have ew3 : IntKind.i64.wrap ((xsB.length : Int) - 1) = ((xsB.length - 1 : Nat) : Int) := by rw [wrapI]; omega
  have eb1 : xsA.length - 2 < xsA.length := by omega
  have eb2 : xsA.length - 1 < xsA.length := by omega
  have eb3 : xsB.length - 1 < xsB.length := by omega
  obtain ⟨R, hRR⟩ : ∃ R : Nat, xsA[xsA.length - 2] = (R : Int) := ⟨xsA[xsA.length - 2].toNat, by omega⟩
  obtain ⟨I, hII⟩ : ∃ I : Nat, xsA[xsA.length - 1] = (I : Int) := ⟨xsA[xsA.length - 1].toNat, by omega⟩
  obtain ⟨C, hCC⟩ : ∃ C : Nat, xsB[xsB.length - 1] = (C : Int) := ⟨xsB[xsB.length - 1].toNat, by omega⟩
  rw [hRR] at hcR hdR
  rw [hII] at hcI hdI
  rw [hCC] at hcC hdC
  obtain ⟨P, hMS⟩ := mulShape_of tA tB hz hn.1 hn.2 hRR hII hCC
  obtain ⟨bD, oD, eD, lD1, _⟩ := hA2.cell 0 (by rw [hMS.lenA]; exact Nat.mul_le_mul hMS.p1 (Nat.mul_le_mul hMS.r1 hMS.i1))
  obtain ⟨bE, oE, eE, lE1, _⟩ := hB2.cell 0 (by rw [hMS.lenB]; split; exact Nat.mul_le_mul hMS.p1 (Nat.mul_le_mul hMS.i1 hMS.c1); exact Nat.mul_le_mul hMS.i1 hMS.c1)
  subst eD
  subst eE
  have hW : mulW xsA ysA xsB ysB f = mulG ysA ysB R I C (decide (xsB.length = xsA.length)) f := by
    unfold mulW
    rw [List.getElem?_eq_getElem (show xsA.length - 2 < xsA.length by omega), List.getElem?_eq_getElem (show xsA.length - 1 < xsA.length by omega), List.getElem?_eq_getElem (show xsB.length - 1 < xsB.length by omega)]
    simp only [Option.getD_some, hRR, hII, hCC, Int.toNat_natCast]
  have hN : mulN xsA xsB = P * (R * C) := hMS.lenT
  have hE : mulE xsA ysA xsB ysB f = if ((List.range (mulN xsA xsB)).all fun j => isW (mulW xsA ysA xsB ysB f j)) = true then 0 else 3 := by unfold mulE; rw [if_pos hz]
  have hX : mulX xsA ysA xsB ysB f = if mulE xsA ysA xsB ysB f = 0 then outL xsA xsB else [] := rfl
  have hY : mulY xsA ysA xsB ysB f = if mulE xsA ysA xsB ysB f = 0 then (List.range (mulN xsA xsB)).map (mulW xsA ysA xsB ysB f) else [] := rfl
  generalize mulE xsA ysA xsB ysB f = ZE at hE hX hY ⊢
  generalize mulX xsA ysA xsB ysB f = ZX at hX ⊢
  generalize mulY xsA ysA xsB ysB f = ZY at hY ⊢
  generalize hN0 : mulN xsA xsB = N at *
  have hNP : (prodI (outL xsA xsB)).toNat = N := hN0
  generalize mulW xsA ysA xsB ysB f = G at *
  clear hN0
  obtain ⟨RI, HRI, hRI1, hRI2, eri, hRI0, hRI3⟩ := ri_facts R I hdR.1 hdR.2 hdI.1 hdI.2
  have hBk : ysA.length / RI = P := by rw [hMS.lenA, HRI.out]; exact Nat.mul_div_cancel _ hRI1
  have eq1 : (ysA.length : Int) / (RI : Int) = ((ysA.length / RI : Nat) : Int) := rfl
  have eq2 : Int.tdiv (ysA.length : Int) (RI : Int) = ((ysA.length / RI : Nat) : Int) := rfl
  have hBk0 : ysA.length / RI ≤ 9223372036854775807 := Nat.le_trans (Nat.div_le_self _ _) m2
  rw [hBk] at eq1 eq2 hBk0
  have eq3 : RowKit.wrap64 (P : Int) = P := wrap_nat P hBk0
  have HMS := Lib.hid hMS
  have HW := Lib.hid hW
  have HN := Lib.hid hN
  have HE := Lib.hid hE
  have HX := Lib.hid hX
  have HY := Lib.hid hY
  clear hBk hMS hW hN hE hX hY
  have HDR := Lib.hid hdR
  have HDI := Lib.hid hdI
  have HDC := Lib.hid hdC
  have HRI1 := Lib.hid hRI1
  have HRI2 := Lib.hid hRI2
  have HBK := Lib.hid hBk0
  clear hdR hdI hdC hRI1 hRI2 hBk0
  have HA := Lib.hid hA
  have HA2 := Lib.hid hA2
  have HB := Lib.hid hB
  have HBB := Lib.hid hB2
  have TA := Lib.hid tA
  have TB := Lib.hid tB
  have HGS := Lib.hid hgS
  generalize hS : outL xsA xsB = S at *
  clear hA hA2 hB hB2 tA tB hR hz hgS gA gB hfit hS
  go_enter Try.func23, Try.ntmps23
  go_wp2
  go_step3
  go_upto_region 7 with (first | (go_at_call 31; refine (hall _ (by (repeat' (first | exact Below.refl _ _ | refine below_drewN ?_ _ | refine Below.drew ?_ | refine Below.setCell ?_ (by first | omega | (simp <;> omega)) _ | refine Below.alloc ?_ (by first | omega | (simp <;> omega)) _))) (by simp [go_sem]) (by simp)).out.mono ?_; rintro e w1 ⟨rfl, hb⟩; have HB1 := Lib.hid hb; have hs1 := hb.size; (try simp at hs1); have Xt3_1 := Box2.below (b := w.heap.size) (v0 := .slice (some ⟨bA, oA, none⟩) xsA.length c) (v1 := .slice (some ⟨bD, oD, none⟩) ysA.length d) (by constructor <;> go_simp) hb (by first | omega | (simp <;> omega)); have Ht3_1 := Lib.hid Xt3_1; obtain ⟨c0t3_1, c1t3_1, f0t3_1, f1t3_1⟩ := Xt3_1; have Lt3_1 : w.heap.size < w1.heap.size := (by omega); have Xt4_1 := Box2.below (b := w.heap.size + 1) (v0 := .slice (some ⟨bB, oB, none⟩) xsB.length c') (v1 := .slice (some ⟨bE, oE, none⟩) ysB.length d') (by constructor <;> go_simp) hb (by first | omega | (simp <;> omega)); have Ht4_1 := Lib.hid Xt4_1; obtain ⟨c0t4_1, c1t4_1, f0t4_1, f1t4_1⟩ := Xt4_1; have Lt4_1 : w.heap.size + 1 < w1.heap.size := (by omega); have Xt6_1 := Box2.below (b := w.heap.size + 1 + 1) (v0 := .slice none 0 0) (v1 := .slice none 0 0) (by constructor <;> go_simp) hb (by first | omega | (simp <;> omega)); have Ht6_1 := Lib.hid Xt6_1; obtain ⟨c0t6_1, c1t6_1, f0t6_1, f1t6_1⟩ := Xt6_1; have Lt6_1 : w.heap.size + 1 + 1 < w1.heap.size := (by omega); clear hb) | (go_at_call 32; refine (hgf _).out.mono ?_; rintro e w' ⟨rfl, rfl⟩) | (go_at_call 60; refine (hout _ (Below.trans (by (repeat' (first | exact Below.refl _ _ | refine below_drewN ?_ _ | refine Below.drew ?_ | refine Below.setCell ?_ (by first | omega | (simp <;> omega)) _ | refine Below.alloc ?_ (by first | omega | (simp <;> omega)) _))) (HB1.out.mono (by first | omega | (simp <;> omega))))).out.mono ?_; rintro e w2 ⟨v, rfl, hown, hb⟩; have HB2 := Lib.hid hb; have hs2 := hb.size; (try simp at hs2); obtain ⟨aS, cS, rfl, hIS⟩ := own_ints hown hwfS; have HIS := Lib.hid hIS; clear hIS; have hbw := (Below.trans (by (repeat' (first | exact Below.refl _ _ | refine below_drewN ?_ _ | refine Below.drew ?_ | refine Below.setCell ?_ (by first | omega | (simp <;> omega)) _ | refine Below.alloc ?_ (by first | omega | (simp <;> omega)) _))) (Below.trans (HB1.out.mono (by first | omega | (simp <;> omega))) (hb.mono (by first | omega | (simp <;> omega)))) : Below w.heap.size w w2); have HBW := Lib.hid hbw; have k1 := (hbw.cell (p := ⟨bA, oA + (xsA.length - 2), none⟩) lA1).trans hcR; have k2 := (hbw.cell (p := ⟨bA, oA + (xsA.length - 1), none⟩) lA1).trans hcI; have k3 := (hbw.cell (p := ⟨bB, oB + (xsB.length - 1), none⟩) lB1).trans hcC; clear hbw; have Xt3_2 := Box2.below (b := w.heap.size) (v0 := .slice (some ⟨bA, oA, none⟩) xsA.length c) (v1 := .slice (some ⟨bD, oD, none⟩) ysA.length d) (by constructor <;> go_simp) hb (by first | omega | (simp <;> omega)); have Ht3_2 := Lib.hid Xt3_2; obtain ⟨c0t3_2, c1t3_2, f0t3_2, f1t3_2⟩ := Xt3_2; have Lt3_2 : w.heap.size < w2.heap.size := (by omega); have Xt4_2 := Box2.below (b := w.heap.size + 1) (v0 := .slice (some ⟨bB, oB, none⟩) xsB.length c') (v1 := .slice (some ⟨bE, oE, none⟩) ysB.length d') (by constructor <;> go_simp) hb (by first | omega | (simp <;> omega)); have Ht4_2 := Lib.hid Xt4_2; obtain ⟨c0t4_2, c1t4_2, f0t4_2, f1t4_2⟩ := Xt4_2; have Lt4_2 : w.heap.size + 1 < w2.heap.size := (by omega); have Xt6_2 := Box2.below (b := w.heap.size + 1 + 1) (v0 := .slice none 0 0) (v1 := .slice none 0 0) (by constructor <;> go_simp) hb (by first | omega | (simp <;> omega)); have Ht6_2 := Lib.hid Xt6_2; obtain ⟨c0t6_2, c1t6_2, f0t6_2, f1t6_2⟩ := Xt6_2; have Lt6_2 : w.heap.size + 1 + 1 < w2.heap.size := (by omega); clear hb hown))
  go_quiet (fail)
  obtain ⟨V2, hV2⟩ : ∃ V2 : World, w2.drewN nq = V2 := ⟨_, rfl⟩
  have hv : Below w2.heap.size w2 V2 := by rw [← hV2]; exact below_drewN (Below.refl _ _) _
  have hvs : V2.heap.size = w2.heap.size := by rw [← hV2]; rfl
  rw [hV2]
  clear hV2
  have lA2 : bA < w2.heap.size := by omega
  have lB2 : bB < w2.heap.size := by omega
  replace k1 := (hv.cell (p := ⟨bA, oA + (xsA.length - 2), none⟩) lA2).trans k1
  replace k2 := (hv.cell (p := ⟨bA, oA + (xsA.length - 1), none⟩) lA2).trans k2
  replace k3 := (hv.cell (p := ⟨bB, oB + (xsB.length - 1), none⟩) lB2).trans k3
  obtain ⟨v30, v31, v32, v33⟩ := Ht3_2.out.below hv Lt3_2
  obtain ⟨v40, v41, v42, v43⟩ := Ht4_2.out.below hv Lt4_2
  have HV := Lib.hid hv
  clear hv
  go_upto_region 7 with fail
  go_quiet (fail)
  obtain ⟨W3, hW3⟩ : ∃ W3 : World, V2.drewN nq = W3 := ⟨_, rfl⟩
  have hb3 : Below w2.heap.size w2 W3 := by rw [← hW3]; exact below_drewN HV.out _
  have hs3 : W3.heap.size = w2.heap.size := by rw [← hW3]; exact hvs
  rw [hW3]
  clear hW3
  have Y3 := Ht3_2.out.below hb3 Lt3_2
  have Y4 := Ht4_2.out.below hb3 Lt4_2
  have Y6 := Ht6_2.out.below hb3 Lt6_2
  have HY3 := Lib.hid Y3
  have HY4 := Lib.hid Y4
  have HY6 := Lib.hid Y6
  have HB3 := Lib.hid hb3
  have hnew := fun w' (hb : Below W3.heap.size W3 w') => Lib.hid (hNP ▸ elemNew_any aS cS S w' ((((HIS.out.below hb3 (Nat.le_refl _)).mono (by omega)).below hb (Nat.le_refl _)).mono hb.size) HGS.out)
  have L3 : w.heap.size < W3.heap.size := by omega
  have L4 : w.heap.size + 1 < W3.heap.size := by omega
  have L6 : w.heap.size + 1 + 1 < W3.heap.size := by omega
  clear hb3 k1 k2 k3 v30 v31 v32 v33 v40 v41 v42 v43
  clear c0t3_1 c1t3_1 f0t3_1 f1t3_1; clear c0t3_2 c1t3_2 f0t3_2 f1t3_2; clear c0t4_1 c1t4_1 f0t4_1 f1t4_1; clear c0t4_2 c1t4_2 f0t4_2 f1t4_2; clear c0t6_1 c1t6_1 f0t6_1 f1t6_1; clear c0t6_2 c1t6_2 f0t6_2 f1t6_2
  obtain ⟨g0, g1, g2, g3⟩ := Y3
  obtain ⟨h0, h1, h2, h3⟩ := Y4
  obtain ⟨j0, j1, j2, j3⟩ := Y6
  go_upto_block 0 with (first | (go_at_call 35; refine (hnew _ (by (repeat' (first | exact Below.refl _ _ | refine below_drewN ?_ _ | refine Below.drew ?_ | refine Below.setCell ?_ (by first | omega | (simp <;> omega)) _ | refine Below.alloc ?_ (by first | omega | (simp <;> omega)) _)))).out.mono ?_; rintro e w4 ⟨a1, c1, b1, d1, mid, rfl, hm1, hm2, hI1, ⟨hcap1, hsh1⟩, hO1, hb⟩; have HCAP := Lib.hid hcap1; have HSH1 := Lib.hid hsh1; clear hcap1 hsh1; have HB4 := Lib.hid hb; have hs4 := hb.size; (try simp at hs4); have HI1 := Lib.hid hI1; have HO1 := Lib.hid hO1; have Z3 := HY3.out.below (n := W3.heap.size) (hb.mono (by first | omega | (simp <;> omega)) |> fun z => Below.trans (by (repeat' (first | exact Below.refl _ _ | refine below_drewN ?_ _ | refine Below.drew ?_ | refine Below.setCell ?_ (by first | omega | (simp <;> omega)) _ | refine Below.alloc ?_ (by first | omega | (simp <;> omega)) _))) z) L3; have HZ3 := Lib.hid Z3; obtain ⟨u03, u13, u23, u33⟩ := Z3; have M3 : w.heap.size < w4.heap.size := (by omega); have Z4 := HY4.out.below (n := W3.heap.size) (hb.mono (by first | omega | (simp <;> omega)) |> fun z => Below.trans (by (repeat' (first | exact Below.refl _ _ | refine below_drewN ?_ _ | refine Below.drew ?_ | refine Below.setCell ?_ (by first | omega | (simp <;> omega)) _ | refine Below.alloc ?_ (by first | omega | (simp <;> omega)) _))) z) L4; have HZ4 := Lib.hid Z4; obtain ⟨u04, u14, u24, u34⟩ := Z4; have M4 : w.heap.size + 1 < w4.heap.size := (by omega); have Z6 := HY6.out.below (n := W3.heap.size) (hb.mono (by first | omega | (simp <;> omega)) |> fun z => Below.trans (by (repeat' (first | exact Below.refl _ _ | refine below_drewN ?_ _ | refine Below.drew ?_ | refine Below.setCell ?_ (by first | omega | (simp <;> omega)) _ | refine Below.alloc ?_ (by first | omega | (simp <;> omega)) _))) z) L6; have HZ6 := Lib.hid Z6; obtain ⟨u06, u16, u26, u36⟩ := Z6; have M6 : w.heap.size + 1 + 1 < w4.heap.size := (by omega); clear hb hI1 hO1))
  clear HY3 HY4 HY6
  go_step3
  go_upto_block 0 with fail
  obtain ⟨W5, hW5⟩ : ∃ W5 : World, w4.alloc (.cells #[.slice a1 S.length c1, .slice b1 N d1] 26) = W5 := ⟨_, rfl⟩
  have b5 : Below w4.heap.size w4 W5 := by rw [← hW5]; exact (Below.refl _ _).alloc (Nat.le_refl _) _
  have s5 : W5.heap.size = w4.heap.size + 1 := by rw [← hW5]; simp
  have X5 : Box2 W5 w4.heap.size (.slice a1 S.length c1) (.slice b1 N d1) := by rw [← hW5]; exact box2_new _ _ _ _
  have X3 := HZ3.out.below b5 M3
  have X4 := HZ4.out.below b5 M4
  have X6 := HZ6.out.below b5 M6
  have HI5 := Lib.hid (HI1.out.below b5 hm2)
  replace HSH1 := Lib.hid (HSH1.out.below b5 hm2)
  have hO5 := own_below HO1.out b5 (Nat.le_refl _)
  have hbw5 : Below w.heap.size w W5 := HBW.out.trans ((HB3.out.mono (by omega)).trans ((HB4.out.mono (by omega)).trans (b5.mono (by omega))))
  rw [hW5, eq3]
  have eeq : ((xsB.length : Int) == (xsA.length : Int)) = decide (xsB.length = xsA.length) := by
    by_cases h : xsB.length = xsA.length
    · rw [decide_eq_true h, h]; simp
    · rw [decide_eq_false h]; simp; omega
  clear hW5 HB1 HB2 HB3 HB4 HV HZ3 HZ4 HZ6 HI1 u03 u13 u23 u33 u04 u14 u24 u34 u06 u16 u26 u36 g0 g1 g2 g3 h0 h1 h2 h3 j0 j1 j2 j3 b5
  clear ew1 ew2 ew3 eb1 eb2 eb3 hcR hcI hcC hRR hII hCC eri hRI0 hRI3 eq1 eq2 eq3 hall hgf hout hnew hs1 Ht3_1 Lt3_1 Ht4_1 Lt4_1 Ht6_1 Lt6_1 Ht3_2 Lt3_2 Ht4_2 Lt4_2 Ht6_2 Lt6_2 HIS HGS HRI hwfS hNP
  have hNp : 1 ≤ N := by
    rw [HN.out]
    exact Nat.mul_le_mul HMS.out.p1 (Nat.mul_le_mul HMS.out.r1 HMS.out.c1)
  have hmid : w.heap.size + 1 + 1 < mid := by omega
  obtain ⟨g, cap, hgg, hg0, hg1⟩ : ∃ g cap, Value.slice b1 N d1 = .slice (some ⟨g, 0, none⟩) N cap ∧ mid ≤ g ∧ g < W5.heap.size := by
    obtain ⟨aa, cc, he, hh⟩ := own_shape hO5
    rcases hh with hh | ⟨g, hg, h1, h2⟩
    · omega
    · exact ⟨g, cc, by rw [he, hg], h1, h2⟩
  cases hgg
  have hgq : g < w4.heap.size := by
    rcases own_shape HO1.out with ⟨aa, cc, he, hh⟩
    rcases hh with hh | ⟨g2, hg2, _, h2⟩
    · omega
    · cases he
      cases hg2
      exact h2
  clear HO1
  have HF0 : Hid (Fill W5 W5 mid w4.heap.size g d1 N (.slice a1 S.length c1) (.slice (some ⟨g, 0, none⟩) N d1) (partL G N 0)) := Lib.hid ⟨Nat.le_refl _, Below.refl _ _, by rw [partL_zero]; exact hO5, X5⟩
  have HX3 := Lib.hid X3
  have HX4 := Lib.hid X4
  have HX6 := Lib.hid X6
  have HBW5 := Lib.hid hbw5
  generalize hQ : w4.heap.size = Q at *
  have hQ0 : mid ≤ Q := by omega
  have hQg : ¬ Q = g := by omega
  have hQg2 : Q ≠ g := by omega
  have hQ1 : W5.heap.size = Q + 1 := by omega
  have hw5 : w.heap.size + 1 + 1 < W5.heap.size := by omega
  have hB1 : w.heap.size + 1 + 1 < W3.heap.size := L6
  have hB2 : w.heap.size ≤ W3.heap.size := by omega
  have hB3 : W3.heap.size ≤ mid := hm1
  have hB4 : w.heap.size ≤ w.heap.size + 1 + 1 := by omega
  clear hO5 X3 X4 X5 X6 hbw5 hs2 hvs lA2 lB2 hs3 L3 L4 L6 hs4 M3 M4 M6 hm1 hm2 hQ s5
  have hPb : P ≤ 65536 := Nat.le_trans (Nat.le_mul_of_pos_right _ (Nat.mul_le_mul HMS.out.r1 HMS.out.i1)) HMS.out.bA
  go_wp2
  go_loopw [17, 18] (fun s17 s18 wr => ∃ k : Nat, k < P ∧ s18 = .int .i64 k ∧ s17 = .int .i64 ((k * (R * C) : Nat) : Int) ∧ Hid (∀ j, j < k * (R * C) → isW (G j) = true) ∧ Hid (Fill W5 wr mid Q g d1 N (.slice a1 S.length c1) (.slice (some ⟨g, 0, none⟩) N d1) (partL G N (k * (R * C))))) (fun _ s18 _ => P - (intOf s18).toNat)
  case atStart => exact ⟨0, HMS.out.p1, rfl, by simp, Lib.hid (by simp), by simpa using HF0⟩
  case round =>
    obtain ⟨k, hk, rfl, rfl, HG, HF⟩ := hrel
    obtain ⟨wo, rfl⟩ : ∃ wo : World, wo = wr := ⟨_, rfl⟩
    generalize hat : k * (R * C) = T at *
    have HAT := Lib.hid hat
    clear hat HF0
    have Y3 := HX3.out.below HF.out.bel (by omega)
    have Y4 := HX4.out.below HF.out.bel (by omega)
    have Y6 := HX6.out.below HF.out.bel (by omega)
    have YQ := HF.out.box
    have zs := HF.out.sz
    obtain ⟨u0, u1, u2, u3⟩ := Y3
    obtain ⟨v0, v1, v2, v3⟩ := Y4
    obtain ⟨x0, x1, x2, x3⟩ := Y6
    obtain ⟨t0, t1, t2, t3⟩ := YQ
    obtain ⟨kR, kRI, k1R, k1RI, RI, HkA, hk1, hRI1, hRI2, hkl, q1, q2, q3, q4⟩ := mul_block HMS.out hk
    subst hk1
    have hkl2 : kRI + RI ≤ d := Nat.le_trans hkl hd
    replace q1 : ∀ [Inhabited Unit], RowKit.wrap64 ((k : Int) * R) = (kR : Int) := q1
    replace q2 : ∀ [Inhabited Unit], RowKit.wrap64 ((kR : Int) * I) = (kRI : Int) := q2
    replace q3 : ∀ [Inhabited Unit], RowKit.wrap64 (((k : Int) + 1) * R) = (k1R : Int) := q3
    replace q4 : ∀ [Inhabited Unit], RowKit.wrap64 ((k1R : Int) * I) = ((kRI + RI : Nat) : Int) := q4
    obtain ⟨bt, hbt⟩ : ∃ bt, decide (xsB.length = xsA.length) = bt := ⟨_, rfl⟩
    rw [hbt] at eeq
    have HBT := Lib.hid hbt
    clear hbt
    obtain ⟨oY, L, cY, kB, HKB, HOY, hL1, hL2, hL3, hL4, HYF, HYT⟩ : ∃ oY L cY kB : Nat, Hid (kB = if decide (xsB.length = xsA.length) = true then k * (I * C) else 0) ∧ Hid (oY = oE + kB) ∧ I * C ≤ L ∧ L ≤ cY ∧ cY ≤ 9223372036854775807 ∧ kB + L ≤ ysB.length ∧
        Hid (bt = false → oY = oE ∧ L = ysB.length ∧ cY = d') ∧
        Hid (bt = true → ∃ kI kIC k1I IC : Nat, oY = oE + kIC ∧ L = IC ∧ cY = IC ∧ 1 ≤ IC ∧ IC ≤ 65536 ∧ kIC + IC ≤ ysB.length ∧
          RowKit.wrap64 ((k : Int) * I) = (kI : Int) ∧ RowKit.wrap64 ((kI : Int) * C) = (kIC : Int) ∧ RowKit.wrap64 (((k : Int) + 1) * I) = (k1I : Int) ∧ RowKit.wrap64 ((k1I : Int) * C) = ((kIC + IC : Nat) : Int)) := by
      have hlB := HMS.out.lenB
      cases bt with
      | false =>
        rw [HBT.out, if_neg (by decide)] at hlB
        refine ⟨oE, ysB.length, d', 0, Lib.hid (by rw [HBT.out]; rfl), Lib.hid rfl, ?_, hd', hdm', ?_, Lib.hid (fun _ => ⟨rfl, rfl, rfl⟩), Lib.hid (fun h => by cases h)⟩
        · rw [hlB]; exact Nat.le_refl _
        · rw [Nat.zero_add]; exact Nat.le_refl _
      | true =>
        obtain ⟨kI, kIC, k1I, k1IC, IC, HkB, hk2, hIC1, hIC2, hkl3, r1, r2, r3, r4⟩ := mul_blockB HMS.out hk (of_decide_eq_true HBT.out)
        subst hk2
        refine ⟨oE + kIC, IC, IC, kIC, Lib.hid (by rw [HBT.out, if_pos rfl]; exact HkB.out.1), Lib.hid rfl, ?_, Nat.le_refl _, ?_, hkl3, Lib.hid (fun h => by cases h), Lib.hid (fun _ => ⟨kI, kIC, k1I, IC, rfl, rfl, rfl, hIC1, hIC2, hkl3, r1, r2, r3, r4⟩)⟩
        · rw [HkB.out.2]; exact Nat.le_refl _
        · exact Nat.le_trans hIC2 (by decide)
    have HL1 := Lib.hid hL1
    clear hL1
    go_upto_if 106 with fail
    rw [Nat.add_sub_cancel_left]
    go_cut [19, 20] from 82 to 126 (fun s19 s20 wx => s19 = .slice (some ⟨bD, oD + kRI, none⟩) RI RI ∧ s20 = .slice (some ⟨bE, oY, none⟩) L cY ∧ wx = wo)
    case first =>
      cases bt with
      | false =>
        obtain ⟨rfl, rfl, rfl⟩ := HYF.out rfl
        go_wp2_with fail
        go_meet
        exact ⟨rfl, rfl, rfl⟩
      | true =>
        obtain ⟨kI, kIC, k1I, IC, e1, e2, e3, hIC1, hIC2, hkl3, r1, r2, r3, r4⟩ := HYT.out rfl
        have hkl4 : kIC + IC ≤ d' := Nat.le_trans hkl3 hd'
        replace r1 : ∀ [Inhabited Unit], RowKit.wrap64 ((k : Int) * I) = (kI : Int) := r1
        replace r2 : ∀ [Inhabited Unit], RowKit.wrap64 ((kI : Int) * C) = (kIC : Int) := r2
        replace r3 : ∀ [Inhabited Unit], RowKit.wrap64 (((k : Int) + 1) * I) = (k1I : Int) := r3
        replace r4 : ∀ [Inhabited Unit], RowKit.wrap64 ((k1I : Int) * C) = ((kIC + IC : Nat) : Int) := r4
        subst e1 e2 e3
        go_wp2_with fail
        go_meet
        exact ⟨rfl, rfl, rfl⟩
    case rest =>
      obtain ⟨rfl, rfl, rfl⟩ := hcut
      have hmr := mul_rc HMS.out
      obtain ⟨RC, HRC, hRC1, hRC2, q5⟩ := hmr
      replace q5 : ∀ [Inhabited Unit], RowKit.wrap64 ((R : Int) * C) = (RC : Int) := q5
      have hTN : T + RC ≤ N := by
        rw [← HAT.out, HN.out, HRC.out, ← Nat.succ_mul]
        exact Nat.mul_le_mul hk (Nat.le_refl _)
      have hN6 : N ≤ 65536 := by rw [HN.out]; exact HMS.out.bT
      clear u0 u1 u2 u3 v0 v1 v2 v3 x0 x1 x2 x3 t0 t1 t2 t3 q1 q2 q3 q4 HYF HYT
      go_wp2
      (try rw [q5])
      go_loopw [17, 130] (fun s17 s130 wr => ∃ i : Nat, i ≤ RC ∧ s130 = .int .i64 i ∧ s17 = .int .i64 ((T + i : Nat) : Int) ∧ Hid (∀ j, j < T + i → isW (G j) = true) ∧ Hid (Fill W5 wr mid Q g d1 N (.slice a1 S.length c1) (.slice (some ⟨g, 0, none⟩) N d1) (partL G N (T + i)))) (fun _ s130 _ => RC - (intOf s130).toNat)
      case atStart => exact ⟨0, Nat.zero_le _, rfl, rfl, HG, HF⟩
      case round =>
        obtain ⟨i, hi, rfl, rfl, HG2, HF2⟩ := hrel
        have HBO := HF.out.bel
        clear HG HF
        by_cases hlt : i < RC
        · have hlt2 : i < R * C := by rw [← HRC.out]; exact hlt
          obtain ⟨q, r, qI, IC, Hq, hqI, hrl, hIC, hjC, hI1, hI2, e1, e2, e3, e4, e5, e6⟩ := mul_cell HMS.out hlt2
          have hqI2 : qI + I ≤ RI := by rw [HkA.out.2]; exact hqI
          have hICL : IC ≤ L := by rw [Hq.out.2.2.2]; exact HL1.out
          have hLr : r < L := Nat.lt_of_lt_of_le hrl hICL
          have hYc : r < cY := Nat.lt_of_lt_of_le hLr hL2
          have bw0 : Below w.heap.size w wr := HBW5.out.trans (HF2.out.bel.mono (by omega))
          obtain ⟨iX, lX⟩ := intsSub (HA2.out.below bw0 (Nat.le_refl _)) (kRI + qI) I (by omega)
          obtain ⟨iY, lY⟩ := intsSub (HBB.out.below bw0 (Nat.le_refl _)) (kB + r) (L - r) (by omega)
          have hGv := mulG_at HMS.out hlt2 hk f ((ysA.drop (kRI + qI)).take I) ((ysB.drop (kB + r)).take (L - r)) (by rw [HkA.out.1, Hq.out.2.2.1]) kB HKB.out (by
            intro j hj
            have h1 := hjC j hj
            rw [take_drop_get _ _ _ _ (by omega), Hq.out.2.1])
          have aX : ∀ x ∈ (ysA.drop (kRI + qI)).take I, isW x = true := fun x hx => (tenB_iff.1 TA.out).2.2 x (List.mem_of_mem_drop (List.mem_of_mem_take hx))
          have aY : ∀ x ∈ (ysB.drop (kB + r)).take (L - r), isW x = true := fun x hx => (tenB_iff.1 TB.out).2.2 x (List.mem_of_mem_drop (List.mem_of_mem_take hx))
          generalize (ysA.drop (kRI + qI)).take I = X at *
          generalize (ysB.drop (kB + r)).take (L - r) = Y at *
          have hBB := HMS.out.bB
          have hdot := fun w' (hb : Below wr.heap.size wr w') => Lib.hid (dot_any _ _ I (cY - r) C X Y w' (((iX.mono bw0.size).below hb (Nat.le_refl _)).mono hb.size) (((iY.mono bw0.size).below hb (Nat.le_refl _)).mono hb.size) aX aY (by rw [lX, lY]; intro j hj; have := hjC j hj; omega) (by rw [lX]; exact hI1) (by rw [lY]; omega))
          rw [lX, lY, ← Nat.add_assoc, ← Nat.add_assoc, ← HOY.out] at hdot
          have hwr : WR (dotK X Y C I / 18446744073709551616) (dotK X Y C I % 18446744073709551616) := by
            have := dotK_bound X Y C aX aY I
            have h2 : (I : Int) * 19807040628566084398385987584 ≤ 65536 * 19807040628566084398385987584 := by omega
            exact ⟨by omega, by omega, by omega, by omega⟩
          have hsh := fun w' => Lib.hid (shifted_any _ _ f w' (by omega) (by omega) hwr)
          rw [V_split3, hGv, ← HW.out, HAT.out] at hsh
          clear iX iY aX aY lX lY hwr hGv hjC bw0 HAT
          generalize dotK X Y C I / 18446744073709551616 = DH at *
          generalize dotK X Y C I % 18446744073709551616 = DL at *
          have hTI0 : T + i < N := by omega
          obtain ⟨TI, hTI⟩ : ∃ q, T + i = q := ⟨_, rfl⟩
          rw [hTI] at hTI0 hsh HG2 HF2 ⊢
          have HTI := Lib.hid hTI
          clear hTI
          have hne1 : ¬ RI = qI := by omega
          have hne2 : ¬ I = 0 := by omega
          have hne3 : ¬ cY = r := by omega
          have hle1 : qI ≤ RI := by omega
          have hle2 : I ≤ RI - qI := by omega
          have hle3 : r ≤ L := by omega
          have hle4 : r ≤ cY := by omega
          have hi1 : (0 : Int) ≤ (qI : Int) := by omega
          have hi2 : (qI : Int) ≤ (RI : Int) := by omega
          have hi3 : (0 : Int) ≤ (r : Int) := by omega
          have hi4 : (r : Int) ≤ (L : Int) := by omega
          have hi5 : (I : Int) ≤ ((RI - qI : Nat) : Int) := by omega
          have hC1 := HMS.out.c1
          have hc0 : ((C : Int) == 0) = false := by simp; omega
          have hc1 : ¬ (C : Int) = 0 := by omega
          have HIC := Lib.hid hIC
          have HBB2 := Lib.hid hBB
          clear hIC hBB hqI hqI2 hICL hrl hL2 hL4
          replace e1 : ∀ [Inhabited Unit], Int.tdiv (i : Int) (C : Int) = (q : Int) := e1
          replace e2 : ∀ [Inhabited Unit], (i : Int) / (C : Int) = (q : Int) := e2
          replace e3 : ∀ [Inhabited Unit], IntKind.i64.wrap (q : Int) = (q : Int) := e3
          replace e4 : ∀ [Inhabited Unit], IntKind.i64.wrap ((q : Int) * I) = (qI : Int) := e4
          replace e5 : ∀ [Inhabited Unit], Int.tmod (i : Int) (C : Int) = (r : Int) := e5
          replace e6 : ∀ [Inhabited Unit], (i : Int) % (C : Int) = (r : Int) := e6
          go_upto_region 20 with fail
          go_region_with (first | (go_at_call 61; refine (hdot _ (by (repeat' (first | exact Below.refl _ _ | refine below_drewN ?_ _ | refine Below.drew ?_ | refine Below.setCell ?_ (by first | omega | (simp <;> omega)) _ | refine Below.alloc ?_ (by first | omega | (simp <;> omega)) _)))).out.mono ?_; rintro e w1 ⟨rfl, hb⟩; have HB1 := Lib.hid hb; have hs1 := hb.size; (try simp at hs1); clear hb) | (go_at_call 42; refine (hsh _).out.mono ?_; rintro e w2 ⟨he, hb⟩; unfold RetV at he; subst he; have HB2 := Lib.hid hb; have hs2 := hb.size; (try simp at hs2); clear hb))
          all_goals
            have hbb : Below wr.heap.size wr w2 := Below.trans (by (repeat' (first | exact Below.refl _ _ | refine below_drewN ?_ _ | refine Below.drew ?_ | refine Below.setCell ?_ (by first | omega | (simp <;> omega)) _ | refine Below.alloc ?_ (by first | omega | (simp <;> omega)) _))) (Below.trans (HB1.out.mono (by first | omega | (simp <;> omega))) (HB2.out.mono (by first | omega | (simp <;> omega))))
            have F2 := HF2.out.next hbb
            have HF3 := Lib.hid F2
            have X6' := HX6.out.below F2.bel (by omega)
            obtain ⟨x0, x1, x2, x3⟩ := X6'
            obtain ⟨t0, t1, t2, t3⟩ := F2.box
            have fc := F2.cell TI hTI0
            have hz2 := F2.sz
            have hBW := HBW5.out.trans (F2.bel.mono (by omega))
            have HBWW := Lib.hid hBW
            obtain ⟨fc1, fc2⟩ := fc
            clear hbb F2 hBW hdot hsh HF2 HB1 HB2
            cases hg : isW (G TI) with
            | false =>
              have hv : wordV (G TI) = 0 := by unfold wordV; rw [hg]; rfl
              have he : wordE (G TI) = 3 := by unfold wordE; rw [hg]; rfl
              have HZ : Hid (ZE = 3) := Lib.hid (by
                rw [HE.out, if_neg]
                intro h
                have := List.all_eq_true.1 h TI (by simp; exact hTI0)
                rw [hg] at this
                cases this)
              rw [hv, he]
              clear hv he hg
              go_wp2
              (try simp only [Exit.noGoto, Exit.inBlock, Exit.then])
              refine bodyPost_ret (v := .tuple #[.agg #[.slice none 0 0, .slice none 0 0], .int .i64 3]) (by rw [results_ct rfl]; go_simp) rfl ?_
              exact retTen_bad HZ HX HY ((HBWW.out.setCell (by simp; omega) _).setCell (by simp; omega) _)
            | true =>
              have hv : wordV (G TI) = G TI := by unfold wordV; rw [hg]; rfl
              have he : wordE (G TI) = 0 := by unfold wordE; rw [hg]; rfl
              have HG3 : Hid (∀ j, j < TI + 1 → isW (G j) = true) := Lib.hid (fun j hj => by
                by_cases h : j < TI
                · exact HG2.out j h
                · rw [show j = TI by omega]; exact hg)
              have HF4 := Lib.hid (HF3.out.set TI (G TI) hQg2)
              rw [partL_set] at HF4
              rw [hv, he]
              clear hv he hg HG2
              go_wp2
              go_roundw
              case rel => exact ⟨i + 1, by omega, by go_num, by rw [← Nat.add_assoc, HTI.out]; go_num, by rw [← Nat.add_assoc, HTI.out]; exact HG3, by rw [← Nat.add_assoc, HTI.out]; exact HF4⟩
              case measure => simp [intOf]; omega
        · have hie : i = RC := by omega
          subst hie
          have F2 := HF2.out
          have X6' := HX6.out.below F2.bel (by omega)
          obtain ⟨x0, x1, x2, x3⟩ := X6'
          obtain ⟨t0, t1, t2, t3⟩ := F2.box
          have HBWW := Lib.hid (HBW5.out.trans (F2.bel.mono (by omega)))
          have hwz : w.heap.size + 1 + 1 < wr.heap.size := Nat.lt_of_lt_of_le hw5 F2.sz
          have hTk : T + i = (k + 1) * (R * C) := by rw [← HAT.out, HRC.out, Nat.add_mul, Nat.one_mul]
          have HTK := Lib.hid hTk
          clear F2 hTk hlt
          by_cases hkp : k + 1 < P
          · go_wp2
            go_roundw
            case rel => exact ⟨k + 1, hkp, by go_num, by rw [HTK.out], by rw [← HTK.out]; exact HG2, by rw [← HTK.out]; exact HF2⟩
            case measure => simp [intOf]; omega
          · have hke : k + 1 = P := by omega
            have hTN2 : T + i = N := by rw [HTK.out, HN.out, hke]
            rw [hTN2] at HG2 HF2
            have HTN2 := Lib.hid hTN2
            have HKE := Lib.hid hke
            clear hTN2 hke
            go_wp2
            (try simp only [Exit.noGoto, Exit.inBlock, Exit.then])
            refine bodyPost_ret (v := .tuple #[.agg #[.slice a1 S.length c1, .slice (some ⟨g, 0, none⟩) N d1], .int .i64 0]) (by rw [results_ct rfl]; go_simp) rfl ?_
            exact retTen_good (q := w.heap.size + 1 + 1) HE HX HY HG2 HCAP HSH1 HF2 HI5 hB1 hB2 hB3 hB4 HBWW _ _
end Go.Proofs.Ytadlnmckcnfacaa
