/- A tensor with its last two axes changed, in plain numbers. No walk. -/
import Derived.Test.YtddhhfhammmaaaaGreatMMulP
import Derived.WalkMore
import Derived.Deep.RegionHeld3
import Derived.Deep.RegionWith
import Derived.BigRegion
import Derived.Deep.Cut
import Derived.Deep.CutBlock
import Derived.Deep.CutRange
set_option linter.unusedVariables false
set_option linter.unusedSimpArgs false
namespace Go.Proofs.YtddhhfhammmaaaaGreat
open Go.RowKit Go.Rt

def swapL (xs : List Int) : List Int := (xs.set (xs.length - 2) (xs[xs.length - 1]?.getD 0)).set (xs.length - 1) (xs[xs.length - 2]?.getD 0)
/-- Where word k of the turned tensor stood: R rows, C columns before. -/
def turnI (R C k : Nat) : Nat := k / (R * C) * (R * C) + k % (R * C) % R * C + k % (R * C) / R
def turnL (xs ys : List Int) : List Int := (List.range ys.length).map fun k => ys[turnI (xs[xs.length - 2]?.getD 0).toNat (xs[xs.length - 1]?.getD 0).toNat k]?.getD 0

structure TurnShape (xs ys : List Int) (P R C : Nat) : Prop where
  p1 : 1 ≤ P
  r1 : 1 ≤ R
  c1 : 1 ≤ C
  r2 : R ≤ 4096
  c2 : C ≤ 4096
  len : ys.length = P * (R * C)
  bd : P * (R * C) ≤ 65536
  eR : xs[xs.length - 2]?.getD 0 = (R : Int)
  eC : xs[xs.length - 1]?.getD 0 = (C : Int)

theorem swapL_eq (xs : List Int) (h2 : 2 ≤ xs.length) : swapL xs = xs.take (xs.length - 2) ++ [xs[xs.length - 1], xs[xs.length - 2]] := by
  unfold swapL
  rw [List.getElem?_eq_getElem (show xs.length - 1 < xs.length by omega), List.getElem?_eq_getElem (show xs.length - 2 < xs.length by omega)]
  simp only [Option.getD_some]
  generalize xs[xs.length - 1] = u
  generalize xs[xs.length - 2] = v
  apply List.ext_getElem
  · simp; omega
  · intro i h1 h3
    have hl : i < xs.length := by simpa using h1
    rw [List.getElem_set, List.getElem_set]
    by_cases c1 : xs.length - 1 = i
    · rw [if_pos c1, List.getElem_append_right (by simp; omega)]
      subst c1
      simp [show xs.length - 1 - (xs.length - 2) = 1 by omega, show min (xs.length - 2) xs.length = xs.length - 2 by omega]
    · rw [if_neg c1]
      by_cases c2 : xs.length - 2 = i
      · rw [if_pos c2, List.getElem_append_right (by simp; omega)]
        subst c2
        simp [show min (xs.length - 2) xs.length = xs.length - 2 by omega]
      · rw [if_neg c2, List.getElem_append_left (by simp; omega)]
        simp
theorem swapL_len (xs : List Int) : (swapL xs).length = xs.length := by simp [swapL]

theorem swapL_get {xs : List Int} (h2 : 2 ≤ xs.length) : (swapL xs)[xs.length - 2]?.getD 0 = xs[xs.length - 1]?.getD 0 ∧ (swapL xs)[xs.length - 1]?.getD 0 = xs[xs.length - 2]?.getD 0 := by
  unfold swapL
  generalize xs[xs.length - 1]?.getD 0 = u
  generalize xs[xs.length - 2]?.getD 0 = v
  constructor
  · rw [List.getElem?_set_ne (by omega), List.getElem?_set_self (by omega)]; rfl
  · rw [List.getElem?_set_self (by simp; omega)]; rfl
theorem turnShape_of {xs ys : List Int} (ht : tenB xs ys = true) (h2 : 2 ≤ xs.length) : ∃ P R C, TurnShape xs ys P R C := by
  obtain ⟨g, l, _⟩ := tenB_iff.1 ht
  have d := goodB_dims g
  have p := goodB_prod g
  have hdR := d.at (show xs.length - 2 < xs.length by omega)
  have hdC := d.at (show xs.length - 1 < xs.length by omega)
  have hP := (d.take (xs.length - 2)).pos
  have e1 : prodI xs = prodI (xs.take (xs.length - 2)) * (xs[xs.length - 2] * xs[xs.length - 1]) := by
    conv => lhs; rw [last2 xs h2, prodI_append]
    simp [prodI]
  obtain ⟨P, hPP⟩ : ∃ P : Nat, prodI (xs.take (xs.length - 2)) = (P : Int) := ⟨(prodI (xs.take (xs.length - 2))).toNat, by omega⟩
  obtain ⟨R, hR⟩ : ∃ R : Nat, xs[xs.length - 2] = (R : Int) := ⟨(xs[xs.length - 2]).toNat, by omega⟩
  obtain ⟨C, hC⟩ : ∃ C : Nat, xs[xs.length - 1] = (C : Int) := ⟨(xs[xs.length - 1]).toNat, by omega⟩
  rw [hPP, hR, hC] at e1
  rw [hPP] at hP
  rw [hR] at hdR
  rw [hC] at hdC
  have c1 : (P : Int) * ((R : Int) * C) = ((P * (R * C) : Nat) : Int) := by simp
  rw [c1] at e1
  refine ⟨P, R, C, by omega, by omega, by omega, by omega, by omega, by omega, by omega, ?_, ?_⟩
  · rw [List.getElem?_eq_getElem (show xs.length - 2 < xs.length by omega)]; exact hR
  · rw [List.getElem?_eq_getElem (show xs.length - 1 < xs.length by omega)]; exact hC

theorem swapL_good {xs : List Int} (h : goodB xs = true) (h2 : 2 ≤ xs.length) : goodB (swapL xs) = true ∧ prodI (swapL xs) = prodI xs := by
  obtain ⟨h4, d, hp⟩ := goodB_iff.1 h
  have e2 : prodI (swapL xs) = prodI xs := by
    rw [swapL_eq xs h2]
    conv => rhs; rw [last2 xs h2]
    rw [prodI_append, prodI_append]
    simp [prodI, Int.mul_comm]
  refine ⟨goodB_iff.2 ⟨by rw [swapL_len]; exact h4, ?_, by rw [e2]; exact hp⟩, e2⟩
  intro x hx
  rw [swapL_eq xs h2] at hx
  rcases List.mem_append.1 hx with h1 | h1
  · exact d x (List.mem_of_mem_take h1)
  · simp at h1
    rcases h1 with h1 | h1 <;> (rw [h1]; exact d _ (List.getElem_mem _))

theorem turnL_eq {xs ys : List Int} {P R C : Nat} (h : TurnShape xs ys P R C) : turnL xs ys = (List.range ys.length).map fun k => ys[turnI R C k]?.getD 0 := by
  unfold turnL
  rw [h.eR, h.eC]
  simp

theorem turnI_lt {xs ys : List Int} {P R C k : Nat} (h : TurnShape xs ys P R C) (hk : k < ys.length) : turnI R C k < ys.length ∧ k / (R * C) * (R * C) ≤ 65536 ∧ k % (R * C) % R * C ≤ 65536 ∧ k / (R * C) ≤ 65536 ∧ k % (R * C) ≤ 65536 ∧ k % (R * C) % R < R ∧ k % (R * C) / R < C ∧ k % (R * C) / R ≤ 65536 := by
  obtain ⟨hP, hR, hC, _, _, hl, hb, _, _⟩ := h
  rw [hl] at hk
  have hRC : 1 ≤ R * C := Nat.mul_le_mul hR hC
  have h1 : k / (R * C) < P := Nat.div_lt_of_lt_mul (by rw [Nat.mul_comm]; exact hk)
  have h2 : k % (R * C) < R * C := Nat.mod_lt _ hRC
  have h3 : k % (R * C) % R < R := Nat.mod_lt _ hR
  have h4 : k % (R * C) / R < C := Nat.div_lt_of_lt_mul h2
  have h5 : (k % (R * C) % R + 1) * C ≤ R * C := Nat.mul_le_mul h3 (Nat.le_refl _)
  rw [Nat.add_mul, Nat.one_mul] at h5
  have h6 : (k / (R * C) + 1) * (R * C) ≤ P * (R * C) := Nat.mul_le_mul h1 (Nat.le_refl _)
  rw [Nat.add_mul, Nat.one_mul] at h6
  have h7 : k / (R * C) ≤ k := Nat.div_le_self _ _
  unfold turnI
  rw [hl]
  generalize P * (R * C) = q1 at *
  generalize k / (R * C) * (R * C) = q2 at *
  generalize k % (R * C) % R * C = q3 at *
  generalize k % (R * C) / R = q4 at *
  generalize k % (R * C) % R = q5 at *
  generalize k % (R * C) = q6 at *
  generalize k / (R * C) = q7 at *
  generalize R * C = q8 at *
  refine ⟨?_, ?_, ?_, ?_, ?_, h3, h4, ?_⟩ <;> omega

/-- Numbers of word k. -/
theorem turn_cell {xs ys : List Int} {P R C k : Nat} (h : TurnShape xs ys P R C) (hk : k < ys.length) :
    ∃ kb ki m a b ab q src : Nat, Hid (src = turnI R C k) ∧ src < ys.length ∧
      Int.tdiv (k : Int) ((R * C : Nat) : Int) = (kb : Int) ∧ (k : Int) / ((R * C : Nat) : Int) = (kb : Int) ∧ IntKind.i64.wrap (kb : Int) = (kb : Int) ∧
      Int.tmod (k : Int) ((R * C : Nat) : Int) = (ki : Int) ∧ (k : Int) % ((R * C : Nat) : Int) = (ki : Int) ∧
      IntKind.i64.wrap ((kb : Int) * ((R * C : Nat) : Int)) = (a : Int) ∧
      Int.tmod (ki : Int) (R : Int) = (m : Int) ∧ (ki : Int) % (R : Int) = (m : Int) ∧ IntKind.i64.wrap ((m : Int) * C) = (b : Int) ∧ IntKind.i64.wrap ((a : Int) + b) = (ab : Int) ∧
      Int.tdiv (ki : Int) (R : Int) = (q : Int) ∧ (ki : Int) / (R : Int) = (q : Int) ∧ IntKind.i64.wrap (q : Int) = (q : Int) ∧ IntKind.i64.wrap ((ab : Int) + q) = (src : Int) := by
  obtain ⟨h1, h2, h3, h4, h5, h6, h7, h8⟩ := turnI_lt h hk
  have hb := h.bd
  have hl := h.len
  have hk6 : ys.length ≤ 65536 := by omega
  refine ⟨k / (R * C), k % (R * C), k % (R * C) % R, k / (R * C) * (R * C), k % (R * C) % R * C, k / (R * C) * (R * C) + k % (R * C) % R * C, k % (R * C) / R, turnI R C k, Lib.hid rfl, h1, rfl, rfl, ?_, rfl, rfl, ?_, rfl, rfl, ?_, ?_, rfl, rfl, ?_, ?_⟩
  all_goals rw [IntWalk.i64_left]
  · exact wrap_nat' _ (by omega)
  · rw [← Int.natCast_mul]; exact wrap_nat' _ (by omega)
  · rw [← Int.natCast_mul]; exact wrap_nat' _ (by omega)
  · rw [← Int.natCast_add]; exact wrap_nat' _ (by omega)
  · exact wrap_nat' _ (by omega)
  · rw [← Int.natCast_add]; exact wrap_nat' _ (by unfold turnI at h1; omega)
end Go.Proofs.YtddhhfhammmaaaaGreat
/- Walks: a tensor with its last two axes changed. -/
set_option linter.unusedVariables false
set_option linter.unusedSimpArgs false
namespace Go.Proofs.YtddhhfhammmaaaaGreat
open Go.RowKit Go.Rt

set_option maxHeartbeats 2000000 in
set_option maxRecDepth 100000 in
theorem turn_any (a b : Option Addr) (c d : Nat) (xs ys : List Int) (w : World) (hT : Ten w w.heap.size a c b d xs ys) (ht : tenB xs ys = true) (h2 : 2 ≤ xs.length) :
    Calls Tryz.prog 12 #[.agg #[.slice a xs.length c, .slice b ys.length d]] w (RetTen w (swapL xs) (turnL xs ys) 0) := by
  obtain ⟨P, R, C, hTS⟩ := turnShape_of ht h2
  rw [turnL_eq hTS]
  have g := (tenB_iff.1 ht).1
  have l4 := (goodB_iff.1 g).1
  have hSG := swapL_good g h2
  have hSL := swapL_len xs
  have hN : (prodI (swapL xs)).toNat = ys.length := by rw [hSG.2, ← (tenB_iff.1 ht).2.1]; rfl
  obtain ⟨bA, oA, eA, lA1, _⟩ := hT.sh.cell 0 (by omega)
  have hy1 : 1 ≤ ys.length := by rw [hTS.len]; exact Nat.mul_le_mul hTS.p1 (Nat.mul_le_mul hTS.r1 hTS.c1)
  obtain ⟨bD, oD, eD, lD1, _⟩ := hT.da.cell 0 hy1
  subst eA
  subst eD
  have hgood := fun w' (hb : Below w.heap.size w w') => Lib.hid (elemGood_any (some ⟨bA, oA, none⟩) (some ⟨bD, oD, none⟩) c d xs ys w' ((hT.sh.below hb (Nat.le_refl _)).mono hb.size) ((hT.da.below hb (Nat.le_refl _)).mono hb.size))
  rw [ht] at hgood
  have hcl := fun w' (hb : Below w.heap.size w w') => Lib.hid (clone_any (some ⟨bA, oA, none⟩) c xs w' ((hT.sh.below hb (Nat.le_refl _)).mono hb.size) (by omega))
  have eR := hTS.eR
  have eC := hTS.eC
  have hwf := hT.sh.wf
  have m1 := hT.sh.len
  have m2 := hT.da.len
  have HTS := Lib.hid hTS
  have HT := Lib.hid hT
  have HG := Lib.hid hSG
  have HN := Lib.hid hN
  have HSL := Lib.hid hSL
  have HER := Lib.hid eR
  have HEC := Lib.hid eC
  have HWF := Lib.hid hwf
  have HTB := Lib.hid ht
  clear hTS hT hSG hN hSL eR eC hwf g ht
  go_enter Tryz.func12, Tryz.ntmps12
  go_upto_region 7 with (first | (go_at_call 42; refine (hgood _ (by (repeat' (first | exact Below.refl _ _ | refine below_drewN ?_ _ | refine Below.drew ?_ | refine Below.setCell ?_ (by first | omega | (simp <;> omega)) _ | refine Below.alloc ?_ (by first | omega | (simp <;> omega)) _)))).out.mono ?_; rintro e w1 ⟨rfl, hb⟩; have HB1 := Lib.hid hb; have hs1 := hb.size; (try simp at hs1); have Xt1_1 := Box2.below (b := w.heap.size) (v0 := .slice (some ⟨bA, oA, none⟩) xs.length c) (v1 := .slice (some ⟨bD, oD, none⟩) ys.length d) (by constructor <;> go_simp) hb (by first | omega | (simp <;> omega)); have Ht1_1 := Lib.hid Xt1_1; obtain ⟨c0t1_1, c1t1_1, f0t1_1, f1t1_1⟩ := Xt1_1; have Lt1_1 : w.heap.size < w1.heap.size := (by omega); have Xt2_1 := Box2.below (b := w.heap.size + 1) (v0 := .slice none 0 0) (v1 := .slice none 0 0) (by constructor <;> go_simp) hb (by first | omega | (simp <;> omega)); have Ht2_1 := Lib.hid Xt2_1; obtain ⟨c0t2_1, c1t2_1, f0t2_1, f1t2_1⟩ := Xt2_1; have Lt2_1 : w.heap.size + 1 < w1.heap.size := (by omega); clear hb) | (go_at_call 43; refine (hcl _ (Below.trans (by (repeat' (first | exact Below.refl _ _ | refine below_drewN ?_ _ | refine Below.drew ?_ | refine Below.setCell ?_ (by first | omega | (simp <;> omega)) _ | refine Below.alloc ?_ (by first | omega | (simp <;> omega)) _))) (HB1.out.mono (by first | omega | (simp <;> omega))))).out.mono ?_; rintro e w2 ⟨v, rfl, hown, hb⟩; have HB2 := Lib.hid hb; have hs2 := hb.size; (try simp at hs2); have Xt1_2 := Box2.below (b := w.heap.size) (v0 := .slice (some ⟨bA, oA, none⟩) xs.length c) (v1 := .slice (some ⟨bD, oD, none⟩) ys.length d) (by constructor <;> go_simp) hb (by first | omega | (simp <;> omega)); have Ht1_2 := Lib.hid Xt1_2; obtain ⟨c0t1_2, c1t1_2, f0t1_2, f1t1_2⟩ := Xt1_2; have Lt1_2 : w.heap.size < w2.heap.size := (by omega); have Xt2_2 := Box2.below (b := w.heap.size + 1) (v0 := .slice none 0 0) (v1 := .slice none 0 0) (by constructor <;> go_simp) hb (by first | omega | (simp <;> omega)); have Ht2_2 := Lib.hid Xt2_2; obtain ⟨c0t2_2, c1t2_2, f0t2_2, f1t2_2⟩ := Xt2_2; have Lt2_2 : w.heap.size + 1 < w2.heap.size := (by omega); have HO2 := Lib.hid hown; have HW2 := Lib.hid (Below.trans (by (repeat' (first | exact Below.refl _ _ | refine below_drewN ?_ _ | refine Below.drew ?_ | refine Below.setCell ?_ (by first | omega | (simp <;> omega)) _ | refine Below.alloc ?_ (by first | omega | (simp <;> omega)) _))) (Below.trans (HB1.out.mono (by first | omega | (simp <;> omega))) (hb.mono (by first | omega | (simp <;> omega)))) : Below w.heap.size w w2); obtain ⟨aS, cS, rfl, hsh⟩ := own_shape hown; have HSH := Lib.hid hsh; clear hb hown hsh))
  obtain ⟨gS, rfl, hgS1, hgS2⟩ : ∃ gS, aS = some ⟨gS, 0, none⟩ ∧ w1.heap.size ≤ gS ∧ gS < w2.heap.size := by
    rcases HSH.out with h | ⟨g, h⟩
    · omega
    · exact ⟨g, h⟩
  have k1 := own_cell HO2.out (show xs.length - 2 < xs.length by omega)
  have k2 := own_cell HO2.out (show xs.length - 1 < xs.length by omega)
  rw [HER.out] at k1
  rw [HEC.out] at k2
  have k3 := HO2.out.frozenAt (xs.length - 2)
  have k4 := HO2.out.frozenAt (xs.length - 1)
  have ew1 : IntKind.i64.wrap ((xs.length : Int) - 2) = ((xs.length - 2 : Nat) : Int) := by rw [wrapI]; omega
  have ew2 : IntKind.i64.wrap ((xs.length : Int) - 1) = ((xs.length - 1 : Nat) : Int) := by rw [wrapI]; omega
  have eb1 : xs.length - 2 < xs.length := by omega
  have eb2 : xs.length - 1 < xs.length := by omega
  have eb3 : ¬ xs.length - 2 = xs.length - 1 := by omega
  have eb4 : ¬ xs.length - 1 = xs.length - 2 := by omega
  replace ew1 : ∀ [Inhabited Unit], IntKind.i64.wrap ((xs.length : Int) - 2) = ((xs.length - 2 : Nat) : Int) := ew1
  replace ew2 : ∀ [Inhabited Unit], IntKind.i64.wrap ((xs.length : Int) - 1) = ((xs.length - 1 : Nat) : Int) := ew2
  go_region
  obtain ⟨W3, hW3⟩ : ∃ W3 : World, ((w2.setCell ⟨gS, xs.length - 2, none⟩ (.int .i64 C)).setCell ⟨gS, xs.length - 1, none⟩ (.int .i64 R)).drew = W3 := ⟨_, rfl⟩
  have b3 : Below w1.heap.size w2 W3 := by rw [← hW3]; exact (((Below.refl _ _).setCell hgS1 _).setCell hgS1 _).drew
  have s3 : W3.heap.size = w2.heap.size := by rw [← hW3]; simp [World.setCell]
  have r3 : W3.ownsRow w1.heap.size 3 1 (.slice (some ⟨gS, 0, none⟩) (swapL xs).length cS) (swapL xs).length ((swapL xs).map (Value.int .i64)) := by
    have h1 := (HO2.out.stored (xs.length - 2) (.int .i64 (C : Int))).1
    have h2 := (h1.stored (xs.length - 1) (.int .i64 (R : Int))).1
    rw [map_set, map_set] at h2
    rw [HSL.out, ← hW3]
    unfold swapL
    rw [HER.out, HEC.out]
    exact h2
  rw [hW3]
  clear hW3 k1 k2 k3 k4 ew1 ew2
  have hwS : ∀ x ∈ swapL xs, (Lit.int .i64 x).wf = true := by
    intro x hx
    have := (goodB_dims HG.out.1) x hx
    exact wf_i64_iff.2 (by omega)
  have hIS : Ints .i64 W3 W3.heap.size (some ⟨gS, 0, none⟩) (swapL xs) := by
    obtain ⟨aa, cc, he, hI⟩ := own_ints r3 hwS
    cases he
    exact hI
  have hgo := HG.out.1
  have hNN := HN.out
  have hSL2 := HSL.out
  generalize hSS : swapL xs = S at *
  have HSS := Lib.hid hSS
  clear hSS
  have hnew := fun w' (hb : Below W3.heap.size W3 w') => Lib.hid (hNN ▸ elemNew_any (some ⟨gS, 0, none⟩) cS S w' ((hIS.below hb (Nat.le_refl _)).mono hb.size) hgo)
  rw [hSL2] at hnew
  have HR3 := Lib.hid r3
  have HB3 := Lib.hid b3
  have Y1 := Ht1_2.out.below b3 Lt1_1
  have Y2 := Ht2_2.out.below b3 Lt2_1
  have HY1 := Lib.hid Y1
  have HY2 := Lib.hid Y2
  obtain ⟨g0, g1, g2, g3⟩ := Y1
  obtain ⟨h0, h1, h2', h3⟩ := Y2
  have L1 : w.heap.size < W3.heap.size := by omega
  have L2 : w.heap.size + 1 < W3.heap.size := by omega
  have LS : gS < W3.heap.size := by omega
  clear r3 b3 hwS hIS hgo hNN hSL2 hgood hcl
  clear c0t1_1 c1t1_1 f0t1_1 f1t1_1; clear c0t1_2 c1t1_2 f0t1_2 f1t1_2; clear c0t2_1 c1t2_1 f0t2_1 f1t2_1; clear c0t2_2 c1t2_2 f0t2_2 f1t2_2
  go_upto_region 9 with (first | (go_at_call 37; refine (hnew _ (by (repeat' (first | exact Below.refl _ _ | refine below_drewN ?_ _ | refine Below.drew ?_ | refine Below.setCell ?_ (by first | omega | (simp <;> omega)) _ | refine Below.alloc ?_ (by first | omega | (simp <;> omega)) _)))).out.mono ?_; rintro e w4 ⟨a1, c1, b1, d1, mid, rfl, hm1, hm2, hI1, ⟨hcap1, hsh1⟩, hO1, hb⟩; have HCAP := Lib.hid hcap1; have HSH1 := Lib.hid hsh1; clear hcap1 hsh1; have HB4 := Lib.hid hb; have hs4 := hb.size; (try simp at hs4); have HI1 := Lib.hid hI1; have HO1 := Lib.hid hO1; have Z1 := HY1.out.below (n := W3.heap.size) (hb.mono (by first | omega | (simp <;> omega)) |> fun z => Below.trans (by (repeat' (first | exact Below.refl _ _ | refine below_drewN ?_ _ | refine Below.drew ?_ | refine Below.setCell ?_ (by first | omega | (simp <;> omega)) _ | refine Below.alloc ?_ (by first | omega | (simp <;> omega)) _))) z) L1; have HZ1 := Lib.hid Z1; obtain ⟨u01, u11, u21, u31⟩ := Z1; have M1 : w.heap.size < w4.heap.size := (by omega); have Z2 := HY2.out.below (n := W3.heap.size) (hb.mono (by first | omega | (simp <;> omega)) |> fun z => Below.trans (by (repeat' (first | exact Below.refl _ _ | refine below_drewN ?_ _ | refine Below.drew ?_ | refine Below.setCell ?_ (by first | omega | (simp <;> omega)) _ | refine Below.alloc ?_ (by first | omega | (simp <;> omega)) _))) z) L2; have HZ2 := Lib.hid Z2; obtain ⟨u02, u12, u22, u32⟩ := Z2; have M2 : w.heap.size + 1 < w4.heap.size := (by omega); clear hb hI1 hO1))
  obtain ⟨W5, hW5⟩ : ∃ W5 : World, w4.alloc (.cells #[.slice a1 S.length c1, .slice b1 ys.length d1] 26) = W5 := ⟨_, rfl⟩
  have b5 : Below w4.heap.size w4 W5 := by rw [← hW5]; exact (Below.refl _ _).alloc (Nat.le_refl _) _
  have s5 : W5.heap.size = w4.heap.size + 1 := by rw [← hW5]; simp
  have X5 : Box2 W5 w4.heap.size (.slice a1 S.length c1) (.slice b1 ys.length d1) := by rw [← hW5]; exact box2_new _ _ _ _
  have X1 := HZ1.out.below b5 M1
  have X2 := HZ2.out.below b5 M2
  have HI5 := Lib.hid (HI1.out.below b5 hm2)
  have hO5 := own_below HO1.out b5 (Nat.le_refl _)
  have b35 : Below W3.heap.size W3 W5 := HB4.out.trans (b5.mono hs4)
  have hbw5 : Below w.heap.size w W5 := HW2.out.trans ((HB3.out.mono (by omega)).trans (b35.mono (by omega)))
  have n1 := own_cell HR3.out (show xs.length - 2 < S.length by rw [HSL.out]; omega)
  have n2 := own_cell HR3.out (show xs.length - 1 < S.length by rw [HSL.out]; omega)
  have sg := swapL_get h2
  rw [HSS.out, HER.out, HEC.out] at sg
  rw [sg.1] at n1
  rw [sg.2] at n2
  replace n1 := (b35.cell (p := ⟨gS, xs.length - 2, none⟩) LS).trans n1
  replace n2 := (b35.cell (p := ⟨gS, xs.length - 1, none⟩) LS).trans n2
  rw [hW5]
  clear sg hW5 HB1 HB2 HB3 HB4 HZ1 HZ2 HI1 u01 u11 u21 u31 u02 u12 u22 u32 g0 g1 g2 g3 h0 h1 h2' h3 hnew
  obtain ⟨g, cap, hgg, hg0, hg1⟩ : ∃ g cap, Value.slice b1 ys.length d1 = .slice (some ⟨g, 0, none⟩) ys.length cap ∧ mid ≤ g ∧ g < W5.heap.size := by
    obtain ⟨aa, cc, he, hh⟩ := own_shape hO5
    rcases hh with hh | ⟨g, hg, h1, h2⟩
    · omega
    · exact ⟨g, cc, by rw [he, hg], h1, h2⟩
  cases hgg
  have hgq : g < w4.heap.size := by
    rcases own_shape HO1.out with ⟨aa, cc, he, hh⟩
    rcases hh with hh | ⟨g2, hg2, _, h2⟩
    · omega
    · cases he
      cases hg2
      exact h2
  clear HO1
  have ew1 : IntKind.i64.wrap ((xs.length : Int) - 2) = ((xs.length - 2 : Nat) : Int) := by rw [wrapI]; omega
  have ew2 : IntKind.i64.wrap ((xs.length : Int) - 1) = ((xs.length - 1 : Nat) : Int) := by rw [wrapI]; omega
  have HEW1 : Hid (IntKind.i64.wrap ((xs.length : Int) - 2) = ((xs.length - 2 : Nat) : Int)) := Lib.hid ew1
  have HEW2 : Hid (IntKind.i64.wrap ((xs.length : Int) - 1) = ((xs.length - 1 : Nat) : Int)) := Lib.hid ew2
  replace ew1 : ∀ [Inhabited Unit], IntKind.i64.wrap ((xs.length : Int) - 2) = ((xs.length - 2 : Nat) : Int) := ew1
  replace ew2 : ∀ [Inhabited Unit], IntKind.i64.wrap ((xs.length : Int) - 1) = ((xs.length - 1 : Nat) : Int) := ew2
  obtain ⟨SZ, HSZ, hsz⟩ : ∃ SZ : Nat, Hid (SZ = R * C) ∧ IntKind.i64.wrap ((C : Int) * R) = (SZ : Int) := ⟨R * C, Lib.hid rfl, by
    have h1 := HTS.out.r2
    have h2 := HTS.out.c2
    have h3 := Nat.mul_le_mul h1 h2
    rw [Int.mul_comm, ← Int.natCast_mul, IntWalk.i64_left]; exact wrap_nat' _ (by omega)⟩
  replace hsz : ∀ [Inhabited Unit], IntKind.i64.wrap ((C : Int) * R) = (SZ : Int) := hsz
  go_quiet (fail)
  obtain ⟨W6, hW6⟩ : ∃ W6 : World, W5.drewN nq = W6 := ⟨_, rfl⟩
  have b6 : Below W5.heap.size W5 W6 := by rw [← hW6]; exact below_drewN (Below.refl _ _) _
  have s6 : W6.heap.size = W5.heap.size := by rw [← hW6]; rfl
  rw [hW6]
  clear hW6
  have HX1 := Lib.hid (X1.below b6 (by omega))
  have HX2 := Lib.hid (X2.below b6 (by omega))
  have X6 := X5.below b6 (by omega)
  have HF0 : Hid (Fill W6 W6 mid w4.heap.size g d1 ys.length (.slice a1 S.length c1) (.slice (some ⟨g, 0, none⟩) ys.length d1) (partL (fun k => ys[turnI R C k]?.getD 0) ys.length 0)) := Lib.hid ⟨Nat.le_refl _, Below.refl _ _, by rw [partL_zero]; exact own_below hO5 b6 (Nat.le_refl _), X6⟩
  have HI6 := Lib.hid (HI5.out.below b6 (by omega))
  replace HSH1 := Lib.hid ((HSH1.out.below b5 hm2).below b6 (by omega))
  have HBW6 := Lib.hid (hbw5.trans (b6.mono (by omega)))
  replace n1 := (b6.cell (p := ⟨gS, xs.length - 2, none⟩) (show gS < W5.heap.size by omega)).trans n1
  replace n2 := (b6.cell (p := ⟨gS, xs.length - 1, none⟩) (show gS < W5.heap.size by omega)).trans n2
  obtain ⟨z0, z1, z2, z3⟩ := X6
  have N1 := Lib.hid n1
  have N2 := Lib.hid n2
  clear b5 X1 X2 X5 hO5 hbw5 b6 HI5 n1 n2 ew1 ew2 b35
  have hQ0 : mid ≤ w4.heap.size := hm2
  have hQg : w4.heap.size ≠ g := by omega
  have hQg' : ¬ w4.heap.size = g := by omega
  have hgg : ¬ gS = g := by omega
  have hgg2 : ¬ g = gS := by omega
  have hw1 : w.heap.size < mid := by omega
  have hw2 : w.heap.size + 1 < mid := by omega
  have hgm : gS < mid := by omega
  have hB1 : w.heap.size + 1 < W3.heap.size := L2
  have hB2 : w.heap.size ≤ W3.heap.size := by omega
  have hB3 : W3.heap.size ≤ mid := hm1
  have hB4 : w.heap.size ≤ w.heap.size + 1 := by omega
  have hy6 : ys.length ≤ 65536 := by rw [HTS.out.len]; exact HTS.out.bd
  generalize hG : (fun k => ys[turnI R C k]?.getD 0) = G at *
  have HGG := Lib.hid hG
  clear hG
  generalize w4.heap.size = Q at *
  clear hs1 Ht1_1 Lt1_1 Ht2_1 Lt2_1 hs2 Ht1_2 Lt1_2 Ht2_2 Lt2_2 hgS1 hgS2 s3 HY1 HY2 L1 L2 LS hs4 M1 M2 hm1 s5
  go_wp2
  go_loopw [60] (fun s60 wr => ∃ k : Nat, k ≤ ys.length ∧ s60 = .int .i64 k ∧ Hid (Fill W6 wr mid Q g d1 ys.length (.slice a1 S.length c1) (.slice (some ⟨g, 0, none⟩) ys.length d1) (partL G ys.length k))) (fun s60 _ => ys.length - (intOf s60).toNat)
  case atStart => exact ⟨0, Nat.zero_le _, rfl, HF0⟩
  case round =>
    obtain ⟨k, hk, rfl, HF⟩ := hrel
    by_cases hlt : k < ys.length
    · obtain ⟨kb, ki, m, a, b, ab, q, src, Hs, hsl, e1, e2, e3, e4, e5, e6, e7, e8, e9, e10, e11, e12, e13, e14⟩ := turn_cell HTS.out hlt
      rw [← HSZ.out] at e1 e2 e4 e5 e6
      replace e1 : ∀ [Inhabited Unit], Int.tdiv (k : Int) (SZ : Int) = (kb : Int) := e1
      replace e2 : ∀ [Inhabited Unit], (k : Int) / (SZ : Int) = (kb : Int) := e2
      replace e3 : ∀ [Inhabited Unit], IntKind.i64.wrap (kb : Int) = (kb : Int) := e3
      replace e4 : ∀ [Inhabited Unit], Int.tmod (k : Int) (SZ : Int) = (ki : Int) := e4
      replace e5 : ∀ [Inhabited Unit], (k : Int) % (SZ : Int) = (ki : Int) := e5
      replace e6 : ∀ [Inhabited Unit], IntKind.i64.wrap ((kb : Int) * (SZ : Int)) = (a : Int) := e6
      replace e7 : ∀ [Inhabited Unit], Int.tmod (ki : Int) (R : Int) = (m : Int) := e7
      replace e8 : ∀ [Inhabited Unit], (ki : Int) % (R : Int) = (m : Int) := e8
      replace e9 : ∀ [Inhabited Unit], IntKind.i64.wrap ((m : Int) * C) = (b : Int) := e9
      replace e10 : ∀ [Inhabited Unit], IntKind.i64.wrap ((a : Int) + b) = (ab : Int) := e10
      replace e11 : ∀ [Inhabited Unit], Int.tdiv (ki : Int) (R : Int) = (q : Int) := e11
      replace e12 : ∀ [Inhabited Unit], (ki : Int) / (R : Int) = (q : Int) := e12
      replace e13 : ∀ [Inhabited Unit], IntKind.i64.wrap (q : Int) = (q : Int) := e13
      replace e14 : ∀ [Inhabited Unit], IntKind.i64.wrap ((ab : Int) + q) = (src : Int) := e14
      have hSZ1 : 1 ≤ SZ := by rw [HSZ.out]; exact Nat.mul_le_mul HTS.out.r1 HTS.out.c1
      have hR1 := HTS.out.r1
      have hc0 : ((SZ : Int) == 0) = false := by simp; omega
      have hc1 : ¬ (SZ : Int) = 0 := by omega
      have hc2 : ((R : Int) == 0) = false := by simp; omega
      have hc3 : ¬ (R : Int) = 0 := by omega
      have hc4 : ¬ R = 0 := by omega
      have hc5 : (R == 0) = false := by simp; omega
      have hc6 : ¬ SZ = 0 := by omega
      go_upto_region 13 with fail
      go_quiet (fail)
      obtain ⟨W7, hW7⟩ : ∃ W7 : World, wr.drewN nq = W7 := ⟨_, rfl⟩
      have b7 : Below wr.heap.size wr W7 := by rw [← hW7]; exact below_drewN (Below.refl _ _) _
      rw [hW7]
      clear hW7
      have F7 := HF.out.next b7
      have HF7 := Lib.hid F7
      have X1 := HX1.out.below F7.bel hw1
      have X2 := HX2.out.below F7.bel hw2
      obtain ⟨z0, z1, z2, z3⟩ := F7.box
      obtain ⟨u0, u1, u2, u3⟩ := X1
      have n1 := (F7.bel.cell (p := ⟨gS, xs.length - 2, none⟩) hgm).trans N1.out
      have n2 := (F7.bel.cell (p := ⟨gS, xs.length - 1, none⟩) hgm).trans N2.out
      obtain ⟨bD2, oD2, he, _, hcy⟩ := HT.out.da.cell src hsl
      cases he
      have hcs := (F7.bel.cell (p := ⟨bD, oD + src, none⟩) (show bD < mid by omega)).trans ((HBW6.out.cell (p := ⟨bD, oD + src, none⟩) lD1).trans hcy)
      have hgk : ys[src]?.getD 0 = G k := by rw [← HGG.out, Hs.out]
      rw [hgk] at hcs
      obtain ⟨fc1, fc2⟩ := F7.cell k hlt
      have ew1 : ∀ [Inhabited Unit], IntKind.i64.wrap ((xs.length : Int) - 2) = ((xs.length - 2 : Nat) : Int) := HEW1.out
      have ew2 : ∀ [Inhabited Unit], IntKind.i64.wrap ((xs.length : Int) - 1) = ((xs.length - 1 : Nat) : Int) := HEW2.out
      have hi1 : (0 : Int) ≤ (src : Int) := by omega
      have hi2 : (src : Int) < (ys.length : Int) := by omega
      have hi3 : (0 : Int) ≤ (k : Int) := by omega
      have hi4 : (k : Int) < (ys.length : Int) := by omega
      have hi5 : (0 : Int) ≤ ((xs.length - 2 : Nat) : Int) := by omega
      have hi6 : ((xs.length - 2 : Nat) : Int) < (xs.length : Int) := by omega
      have hi7 : (0 : Int) ≤ ((xs.length - 1 : Nat) : Int) := by omega
      have hi8 : ((xs.length - 1 : Nat) : Int) < (xs.length : Int) := by omega
      have hbg : ¬ bD = g := by omega
      have hbg2 : ¬ g = bD := by omega
      have hwg : ¬ w.heap.size = g := by omega
      have hwg2 : ¬ g = w.heap.size := by omega
      have hQg2 : ¬ g = Q := by omega
      clear b7 F7 X2 hcy hgk
      go_upto_region 14 with fail
      go_region_held3 (fun w' => w'.cell? ⟨Q, 1, none⟩ = some (.slice (some ⟨g, 0, none⟩) ys.length d1) ∧ w'.cell? ⟨w.heap.size, 1, none⟩ = some (.slice (some ⟨bD, oD, none⟩) ys.length d) ∧ w'.cell? ⟨gS, xs.length - 1, none⟩ = some (.int .i64 R) ∧ w'.cell? ⟨gS, xs.length - 2, none⟩ = some (.int .i64 C) ∧ w'.cell? ⟨bD, oD + src, none⟩ = some (.int .i64 (G k))) (go_keep) (fail)
      all_goals
        have HF8 := Lib.hid ((HF7.out.set k (G k) hQg).next (below_drewN (Below.refl _ _) 1))
        rw [partL_set] at HF8
        clear HF HF7 HF0
        go_wp2
        go_roundw
        case rel => exact ⟨k + 1, by omega, by go_num, HF8⟩
        case measure => simp [intOf]; omega
    · have hke : k = ys.length := by omega
      subst hke
      have F2 := HF.out
      have X2 := HX2.out.below F2.bel hw2
      obtain ⟨x0, x1, x2, x3⟩ := X2
      obtain ⟨t0, t1, t2, t3⟩ := F2.box
      have HBWW := Lib.hid (HBW6.out.trans (F2.bel.mono (by omega)))
      have hwz : w.heap.size + 1 < wr.heap.size := Nat.lt_trans (Nat.lt_of_lt_of_le hw2 F2.lt.1) F2.lt.2
      clear F2 hlt
      go_wp2
      (try simp only [Exit.noGoto, Exit.inBlock, Exit.then])
      refine bodyPost_ret (v := .tuple #[.agg #[.slice a1 S.length c1, .slice (some ⟨g, 0, none⟩) ys.length d1], .int .i64 0]) (by rw [results_ct rfl]; go_simp) rfl ?_
      rw [HGG.out, HSS.out]
      exact retTen_fill (q := w.heap.size + 1) HCAP HSH1 HF HI6 hB1 hB2 hB3 hB4 HBWW _ _
end Go.Proofs.YtddhhfhammmaaaaGreat
