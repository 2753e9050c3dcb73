/- Walks: matmul.Mul and matmul.Turn in all cases. -/
import Derived.Test.YtddhhfhammmaaaaGreatMXMul
import Derived.Test.YtddhhfhammmaaaaGreatMXTurn
set_option linter.unusedVariables false
set_option linter.unusedSimpArgs false
namespace Go.Proofs.YtddhhfhammmaaaaGreat
open Go.RowKit Go.Rt
def fOk (f : Int) : Bool := decide (8 ≤ f) && decide (f ≤ 32)
def mmB (xsA ysA xsB ysB : List Int) (f : Int) : Bool := tenB xsA ysA && (tenB xsB ysB && fOk f)
def mmZ (xsA ysA xsB ysB : List Int) (f : Int) : Int := if mmB xsA ysA xsB ysB f = true then mulE xsA ysA xsB ysB f.toNat else 1
def mmX (xsA ysA xsB ysB : List Int) (f : Int) : List Int := if mmB xsA ysA xsB ysB f = true then mulX xsA ysA xsB ysB f.toNat else []
def mmY (xsA ysA xsB ysB : List Int) (f : Int) : List Int := if mmB xsA ysA xsB ysB f = true then mulY xsA ysA xsB ysB f.toNat else []
def mtZ (xs ys : List Int) : Int := if tenB xs ys = true then (if xs.length < 2 then 2 else 0) else 1
def mtX (xs ys : List Int) : List Int := if mtZ xs ys = 0 then swapL xs else []
def mtY (xs ys : List Int) : List Int := if mtZ xs ys = 0 then turnL xs ys else []
theorem all1B_any (a b : Option Addr) (c d : Nat) (xs ys : List Int) (w : World) (h : Ints .i64 w w.heap.size a xs) (h2 : Ints .i64 w w.heap.size b ys) :
    Calls Tryz.prog 63 #[.agg #[.slice a xs.length c, .slice b ys.length d]] w fun e w' => e = .returned (.bool (!tenB xs ys)) ∧ Below w.heap.size w w' := by
  have hg := fun w' (hb : Below w.heap.size w w') => Lib.hid (elemGood_any a b c d xs ys w' ((h.below hb (Nat.le_refl _)).mono hb.size) ((h2.below hb (Nat.le_refl _)).mono hb.size))
  obtain ⟨t, ht⟩ : ∃ t, tenB xs ys = t := ⟨_, rfl⟩
  rw [ht] at hg ⊢
  clear h h2 ht
  cases t <;>
  · go_enter Tryz.func63, Tryz.ntmps63
    go_wp2_with (first | (go_at_call 42; refine (hg _ (by (repeat' (first | exact Below.refl _ _ | refine below_drewN ?_ _ | refine Below.drew ?_ | refine Below.setCell ?_ (by first | omega | (simp <;> omega)) _ | refine Below.alloc ?_ (by first | omega | (simp <;> omega)) _)))).out.mono ?_; rintro e w1 ⟨rfl, hb⟩; have HB := Lib.hid hb; clear hb))
    go_ret
    exact ⟨rfl, Below.trans (by (repeat' (first | exact Below.refl _ _ | refine below_drewN ?_ _ | refine Below.drew ?_ | refine Below.setCell ?_ (by first | omega | (simp <;> omega)) _ | refine Below.alloc ?_ (by first | omega | (simp <;> omega)) _))) (HB.out.mono (by first | omega | (simp <;> omega)))⟩

def allIx : Bool → Bool → Int
  | true, true => -1
  | true, false => 1
  | false, _ => 0
set_option maxHeartbeats 1000000 in
theorem elemAllB_any (a b a' b' : Option Addr) (c d c' d' : Nat) (xsA ysA xsB ysB : List Int) (ty : TypeId) (W : World) (hA : Ints .i64 W W.heap.size a xsA) (hA2 : Ints .i64 W W.heap.size b ysA) (hB : Ints .i64 W W.heap.size a' xsB) (hB2 : Ints .i64 W W.heap.size b' ysB) :
    Calls Tryz.prog 34 #[.slice (some ⟨W.heap.size, 0, none⟩) 2 2] (W.alloc (.cells #[.slice a xsA.length c, .slice b ysA.length d, .slice a' xsB.length c', .slice b' ysB.length d'] ty)) fun e w' => e = .returned (.bool (tenB xsA ysA && tenB xsB ysB)) ∧ Below W.heap.size W w' := by
  have hgA := fun w' (hb : Below W.heap.size W w') => Lib.hid (all1B_any a b c d xsA ysA w' ((hA.below hb (Nat.le_refl _)).mono hb.size) ((hA2.below hb (Nat.le_refl _)).mono hb.size))
  have hgB := fun w' (hb : Below W.heap.size W w') => Lib.hid (all1B_any a' b' c' d' xsB ysB w' ((hB.below hb (Nat.le_refl _)).mono hb.size) ((hB2.below hb (Nat.le_refl _)).mono hb.size))
  obtain ⟨tA, htA⟩ : ∃ t, tenB xsA ysA = t := ⟨_, rfl⟩
  obtain ⟨tB, htB⟩ : ∃ t, tenB xsB ysB = t := ⟨_, rfl⟩
  rw [htA] at hgA ⊢
  rw [htB] at hgB ⊢
  clear htA htB hA hA2 hB hB2
  obtain ⟨q, hq⟩ : ∃ q, W.heap.size = q := ⟨_, rfl⟩
  have F1 := Lib.hid ((Fr.start (w := W) (I := []) (by intro z hz; simp at hz)).box1 (b := q) hq [.slice a xsA.length c, .slice b ysA.length d, .slice a' xsB.length c', .slice b' ysB.length d'] ty)
  simp only [List.nil_append] at F1
  rw [hq]
  obtain ⟨V, hV⟩ : ∃ V, W.alloc (.cells #[.slice a xsA.length c, .slice b ysA.length d, .slice a' xsB.length c', .slice b' ysB.length d'] ty) = V := ⟨_, rfl⟩
  rw [hV] at F1 ⊢
  have HQ := Lib.hid hq
  clear hV hq
  have hx : Calls Tryz.prog 88 #[.slice (some ⟨q, 0, none⟩) 2 2, .func (.func 63) #[] #[]] V fun e w' => e = .returned (.int .i64 (allIx tA tB)) ∧ Below W.heap.size W w' := by
    go_enter Tryz.func88, Tryz.ntmps88
    go_wp2
    go_loopw [8] (fun i wr => ∃ k : Nat, k ≤ 2 ∧ i = .int .i64 k ∧ (0 < k → tA = true) ∧ (1 < k → tB = true) ∧ Hid (Fr W.heap.size W wr [(q, [.slice a xsA.length c, .slice b ysA.length d, .slice a' xsB.length c', .slice b' ysB.length d'])] [] [] [])) (fun i _ => 2 - (intOf i).toNat)
    case atStart => exact ⟨0, by omega, rfl, by omega, by omega, F1⟩
    case round =>
      obtain ⟨k, hk, rfl, hkA, hkB, F2⟩ := hrel
      obtain ⟨wo, rfl⟩ : ∃ wo : World, wo = wr := ⟨_, rfl⟩
      clear F1
      have c0 := F2.out.c 0 0 rfl rfl
      have c1 := F2.out.c 0 1 rfl rfl
      have c2 := F2.out.c 0 2 rfl rfl
      have c3 := F2.out.c 0 3 rfl rfl
      match k, hk with
      | 0, _ =>
        clear hkA hkB
        cases tA with
        | true =>
          go_wp2_with (first | (go_at_call 63; refine (hgA _ F2.out.bel).out.mono ?_; rintro e w1 ⟨rfl, hb⟩; have F3 := Lib.hid (F2.out.next (hb.mono (Nat.le_refl _))); clear hb F2 c0 c1 c2 c3))
          go_roundw
          case rel => exact ⟨1, by omega, rfl, fun _ => by first | rfl | trivial, by omega, F3⟩
          case measure => simp [intOf]
        | false =>
          go_wp2_with (first | (go_at_call 63; refine (hgA _ F2.out.bel).out.mono ?_; rintro e w1 ⟨rfl, hb⟩; have F3 := Lib.hid (F2.out.next (hb.mono (Nat.le_refl _))); clear hb F2 c0 c1 c2 c3))
          go_ret
          exact ⟨by first | rfl | (cases tB <;> rfl), F3.out.bel⟩
      | 1, _ =>
        obtain rfl := hkA (by omega)
        clear hkA hkB
        cases tB with
        | true =>
          go_wp2_with (first | (go_at_call 63; refine (hgB _ F2.out.bel).out.mono ?_; rintro e w1 ⟨rfl, hb⟩; have F3 := Lib.hid (F2.out.next (hb.mono (Nat.le_refl _))); clear hb F2 c0 c1 c2 c3))
          go_roundw
          case rel => exact ⟨2, by omega, rfl, fun _ => by first | rfl | trivial, fun _ => by first | rfl | trivial, F3⟩
          case measure => simp [intOf]
        | false =>
          go_wp2_with (first | (go_at_call 63; refine (hgB _ F2.out.bel).out.mono ?_; rintro e w1 ⟨rfl, hb⟩; have F3 := Lib.hid (F2.out.next (hb.mono (Nat.le_refl _))); clear hb F2 c0 c1 c2 c3))
          go_ret
          exact ⟨rfl, F3.out.bel⟩
      | 2, _ =>
        obtain rfl := hkA (by omega)
        obtain rfl := hkB (by omega)
        clear hkA hkB
        go_wp2
        go_ret
        exact ⟨rfl, F2.out.bel⟩
  have HX := Lib.hid hx
  clear hx F1
  have hc : Calls Tryz.prog 62 #[.slice (some ⟨q, 0, none⟩) 2 2, .func (.func 63) #[] #[]] V fun e w' => e = .returned (.bool (!(tA && tB))) ∧ Below W.heap.size W w' := by
    cases tA <;> cases tB <;>
    · go_enter Tryz.func62, Tryz.ntmps62
      go_wp2_with (first | (go_at_call 88; refine HX.out.mono ?_; rintro e w1 ⟨rfl, hb⟩; have HB := Lib.hid hb; clear hb; simp only [allIx]))
      go_ret
      exact ⟨by simp, HB.out⟩
  have HC := Lib.hid hc
  clear hc HX
  rw [HQ.out] at HC
  cases tA <;> cases tB <;>
  · go_enter Tryz.func34, Tryz.ntmps34
    go_wp2_with (first | (go_at_call 62; refine HC.out.mono ?_; rintro e w1 ⟨rfl, hb⟩; have HB := Lib.hid hb; clear hb))
    go_ret
    exact ⟨by simp, by first | exact HB.out | exact HQ.out ▸ HB.out⟩

set_option maxRecDepth 100000 in
set_option maxHeartbeats 1000000 in
theorem matMul_all (a b a' b' : Option Addr) (c d c' d' : Nat) (f : Int) (xsA ysA xsB ysB : List Int) (w : World) (hA : Ten w w.heap.size a c b d xsA ysA) (hB : Ten w w.heap.size a' c' b' d' xsB ysB) :
    Calls Tryz.prog 10 #[.agg #[.slice a xsA.length c, .slice b ysA.length d], .agg #[.slice a' xsB.length c', .slice b' ysB.length d'], .int .i64 f] w (RetTF w (mmX xsA ysA xsB ysB f) (mmY xsA ysA xsB ysB f) (mmZ xsA ysA xsB ysB f)) := by
  cases ht : mmB xsA ysA xsB ysB f with
  | true =>
    have e1 : mmX xsA ysA xsB ysB f = mulX xsA ysA xsB ysB f.toNat := by unfold mmX; rw [if_pos ht]
    have e2 : mmY xsA ysA xsB ysB f = mulY xsA ysA xsB ysB f.toNat := by unfold mmY; rw [if_pos ht]
    have e3 : mmZ xsA ysA xsB ysB f = mulE xsA ysA xsB ysB f.toNat := by unfold mmZ; rw [if_pos ht]
    rw [e1, e2, e3]
    unfold mmB fOk at ht
    simp only [Bool.and_eq_true, decide_eq_true_eq] at ht
    obtain ⟨t1, t2, t3, t4⟩ := ht
    obtain ⟨f, rfl⟩ : ∃ k : Nat, f = k := ⟨f.toNat, by omega⟩
    rw [Int.toNat_natCast]
    exact (matMul_any a b a' b' c d c' d' f xsA ysA xsB ysB w hA hB t1 t2 (by omega) (by omega)).mono fun e w9 hr => retTen_fr hr
  | false =>
    have e1 : mmX xsA ysA xsB ysB f = [] := by unfold mmX; rw [ht]; rfl
    have e2 : mmY xsA ysA xsB ysB f = [] := by unfold mmY; rw [ht]; rfl
    have e3 : mmZ xsA ysA xsB ysB f = 1 := by unfold mmZ; rw [ht]; rfl
    rw [e1, e2, e3]
    have H0 := Lib.hid hA.sh
    have H1 := Lib.hid hA.da
    have H2 := Lib.hid hB.sh
    have H3 := Lib.hid hB.da
    have hgf := fun w => goodF_any f w
    rw [show (decide (8 ≤ f) && decide (f ≤ 32)) = fOk f from rfl] at hgf
    have hal := fun ty W h1 h2 h3 h4 => elemAllB_any a b a' b' c d c' d' xsA ysA xsB ysB ty W h1 h2 h3 h4
    unfold mmB at ht
    rw [← Bool.and_assoc] at ht
    obtain ⟨t1, e1⟩ : ∃ t, (tenB xsA ysA && tenB xsB ysB) = t := ⟨_, rfl⟩
    obtain ⟨t2, e2⟩ : ∃ t, fOk f = t := ⟨_, rfl⟩
    rw [e1, e2] at ht
    rw [e1] at hal
    rw [e2] at hgf
    have HAL := Lib.hid hal
    have HGF := Lib.hid hgf
    clear e1 e2 e3 hA hB hal hgf
    cases t1 with
    | false =>
      clear ht
      go_enter Tryz.func10, Tryz.ntmps10
      have F1 := Lib.hid ((((Fr.start (w := w) (I := [(.i64, a, xsA), (.i64, b, ysA), (.i64, a', xsB), (.i64, b', ysB)]) (by intro z hz; simp at hz; rcases hz with rfl | rfl | rfl | rfl; exact H0.out; exact H1.out; exact H2.out; exact H3.out)).box1 (b := w.heap.size) (by simp) [.slice a xsA.length c, .slice b ysA.length d] 26).box1 (b := w.heap.size + 1) (by simp) [.slice a' xsB.length c', .slice b' ysB.length d'] 26).box1 (b := w.heap.size + 1 + 1) (by simp) [.slice none 0 0, .slice none 0 0] 26)
      simp only [List.nil_append, List.cons_append] at F1
      go_upto_region 1 with fail
      obtain ⟨W1, hW1⟩ : ∃ W1, (((w.alloc (.cells #[.slice a xsA.length c, .slice b ysA.length d] 26)).alloc (.cells #[.slice a' xsB.length c', .slice b' ysB.length d'] 26)).alloc (.cells #[.slice none 0 0, .slice none 0 0] 26)) = W1 := ⟨_, rfl⟩
      rw [hW1] at F1 ⊢
      clear hW1
      have c0_0 := F1.out.c 0 0 rfl rfl
      have c0_1 := F1.out.c 0 1 rfl rfl
      have c1_0 := F1.out.c 1 0 rfl rfl
      have c1_1 := F1.out.c 1 1 rfl rfl
      go_step3
      go_wp2_with (first | (go_at_call 34; refine (HAL.out _ _ (F1.out.lw 0 rfl) (F1.out.lw 1 rfl) (F1.out.lw 2 rfl) (F1.out.lw 3 rfl)).mono ?_; rintro e w2 ⟨rfl, hb⟩; have F2 := Lib.hid (F1.out.next hb); clear hb F1 c0_0 c0_1 c1_0 c1_1; have d2_0 := F2.out.c 2 0 rfl rfl; have d2_1 := F2.out.c 2 1 rfl rfl; have df2_0 := F2.out.f 2 0 rfl rfl; have df2_1 := F2.out.f 2 1 rfl rfl) | (go_at_call 35; refine (HGF.out _).mono ?_; rintro e w' ⟨rfl, rfl⟩) | fail)
      have FZ := F2.out.set 2 rfl (by simp) [.slice none 0 0, .slice none 0 0] rfl
      simp only [setL, Nat.reduceAdd, List.set_cons_zero, List.set_cons_succ] at FZ
      have y0 := FZ.c 2 0 rfl rfl
      have y1 := FZ.c 2 1 rfl rfl
      refine bodyPost_ret (v := .tuple #[.agg #[.slice none 0 0, .slice none 0 0], .int .i64 1]) ?_ rfl (retTF_none (FZ.less (.refl _) (.refl _) (List.nil_sublist _) (.refl _)))
      rw [results_ctZ rfl]
      go_simp
    | true =>
      cases t2 with
      | false =>
        clear ht
        go_enter Tryz.func10, Tryz.ntmps10
        have F1 := Lib.hid ((((Fr.start (w := w) (I := [(.i64, a, xsA), (.i64, b, ysA), (.i64, a', xsB), (.i64, b', ysB)]) (by intro z hz; simp at hz; rcases hz with rfl | rfl | rfl | rfl; exact H0.out; exact H1.out; exact H2.out; exact H3.out)).box1 (b := w.heap.size) (by simp) [.slice a xsA.length c, .slice b ysA.length d] 26).box1 (b := w.heap.size + 1) (by simp) [.slice a' xsB.length c', .slice b' ysB.length d'] 26).box1 (b := w.heap.size + 1 + 1) (by simp) [.slice none 0 0, .slice none 0 0] 26)
        simp only [List.nil_append, List.cons_append] at F1
        go_upto_region 1 with fail
        obtain ⟨W1, hW1⟩ : ∃ W1, (((w.alloc (.cells #[.slice a xsA.length c, .slice b ysA.length d] 26)).alloc (.cells #[.slice a' xsB.length c', .slice b' ysB.length d'] 26)).alloc (.cells #[.slice none 0 0, .slice none 0 0] 26)) = W1 := ⟨_, rfl⟩
        rw [hW1] at F1 ⊢
        clear hW1
        have c0_0 := F1.out.c 0 0 rfl rfl
        have c0_1 := F1.out.c 0 1 rfl rfl
        have c1_0 := F1.out.c 1 0 rfl rfl
        have c1_1 := F1.out.c 1 1 rfl rfl
        go_step3
        go_wp2_with (first | (go_at_call 34; refine (HAL.out _ _ (F1.out.lw 0 rfl) (F1.out.lw 1 rfl) (F1.out.lw 2 rfl) (F1.out.lw 3 rfl)).mono ?_; rintro e w2 ⟨rfl, hb⟩; have F2 := Lib.hid (F1.out.next hb); clear hb F1 c0_0 c0_1 c1_0 c1_1; have d2_0 := F2.out.c 2 0 rfl rfl; have d2_1 := F2.out.c 2 1 rfl rfl; have df2_0 := F2.out.f 2 0 rfl rfl; have df2_1 := F2.out.f 2 1 rfl rfl) | (go_at_call 35; refine (HGF.out _).mono ?_; rintro e w' ⟨rfl, rfl⟩) | fail)
        have FZ := F2.out.set 2 rfl (by simp) [.slice none 0 0, .slice none 0 0] rfl
        simp only [setL, Nat.reduceAdd, List.set_cons_zero, List.set_cons_succ] at FZ
        have y0 := FZ.c 2 0 rfl rfl
        have y1 := FZ.c 2 1 rfl rfl
        refine bodyPost_ret (v := .tuple #[.agg #[.slice none 0 0, .slice none 0 0], .int .i64 1]) ?_ rfl (retTF_none (FZ.less (.refl _) (.refl _) (List.nil_sublist _) (.refl _)))
        rw [results_ctZ rfl]
        go_simp
      | true => cases ht
set_option maxRecDepth 100000 in
set_option maxHeartbeats 1000000 in
theorem matTurn_all (a b : Option Addr) (c d : Nat) (xs ys : List Int) (w : World) (hT : Ten w w.heap.size a c b d xs ys) :
    Calls Tryz.prog 12 #[.agg #[.slice a xs.length c, .slice b ys.length d]] w (RetTF w (mtX xs ys) (mtY xs ys) (mtZ xs ys)) := by
  have H0 := Lib.hid hT.sh
  have H1 := Lib.hid hT.da
  have hm := hT.sh.len
  have heg := fun W (h : Ints .i64 W W.heap.size a xs) (h2 : Ints .i64 W W.heap.size b ys) => elemGood_any a b c d xs ys W h h2
  cases ht : tenB xs ys with
  | true =>
    by_cases h2 : xs.length < 2
    · have e3 : mtZ xs ys = 2 := by unfold mtZ; rw [if_pos ht, if_pos h2]
      have e1 : mtX xs ys = [] := by unfold mtX; rw [e3]; rfl
      have e2 : mtY xs ys = [] := by unfold mtY; rw [e3]; rfl
      have hli : (xs.length : Int) < 2 := by omega
      rw [ht] at heg
      have HEG := Lib.hid heg
      rw [e1, e2, e3]
      clear e1 e2 e3 ht hT heg
      go_enter Tryz.func12, Tryz.ntmps12
      have F1 := Lib.hid (((Fr.start (w := w) (I := [(.i64, a, xs), (.i64, b, ys)]) (by intro z hz; simp at hz; rcases hz with rfl | rfl; exact H0.out; exact H1.out)).box1 (b := w.heap.size) (by simp) [.slice a xs.length c, .slice b ys.length d] 26).box1 (b := w.heap.size + 1) (by simp) [.slice none 0 0, .slice none 0 0] 26)
      simp only [List.nil_append, List.cons_append] at F1
      go_upto_region 1 with fail
      obtain ⟨W1, hW1⟩ : ∃ W1, ((w.alloc (.cells #[.slice a xs.length c, .slice b ys.length d] 26)).alloc (.cells #[.slice none 0 0, .slice none 0 0] 26)) = W1 := ⟨_, rfl⟩
      rw [hW1] at F1 ⊢
      clear hW1
      have c0_0 := F1.out.c 0 0 rfl rfl
      have c0_1 := F1.out.c 0 1 rfl rfl
      go_wp2_with (first | (go_at_call 42; refine (HEG.out _ (F1.out.lw 0 rfl) (F1.out.lw 1 rfl)).mono ?_; rintro e w2 ⟨rfl, hb⟩; have F2 := Lib.hid (F1.out.next hb); clear hb F1 c0_0 c0_1; have d1_0 := F2.out.c 1 0 rfl rfl; have d1_1 := F2.out.c 1 1 rfl rfl; have df1_0 := F2.out.f 1 0 rfl rfl; have df1_1 := F2.out.f 1 1 rfl rfl) | fail)
      have FZ := F2.out.set 1 rfl (by simp) [.slice none 0 0, .slice none 0 0] rfl
      simp only [setL, Nat.reduceAdd, List.set_cons_zero, List.set_cons_succ] at FZ
      have y0 := FZ.c 1 0 rfl rfl
      have y1 := FZ.c 1 1 rfl rfl
      refine bodyPost_ret (v := .tuple #[.agg #[.slice none 0 0, .slice none 0 0], .int .i64 2]) ?_ rfl (retTF_none (FZ.less (.refl _) (.refl _) (List.nil_sublist _) (.refl _)))
      rw [results_ctZ rfl]
      go_simp
    · have e3 : mtZ xs ys = 0 := by unfold mtZ; rw [if_pos ht, if_neg h2]
      have e1 : mtX xs ys = swapL xs := by unfold mtX; rw [if_pos e3]
      have e2 : mtY xs ys = turnL xs ys := by unfold mtY; rw [if_pos e3]
      rw [e1, e2, e3]
      exact (turn_any a b c d xs ys w hT ht (by omega)).mono fun e w9 hr => retTen_fr hr
  | false =>
    have e3 : mtZ xs ys = 1 := by unfold mtZ; rw [ht]; rfl
    have e1 : mtX xs ys = [] := by unfold mtX; rw [e3]; rfl
    have e2 : mtY xs ys = [] := by unfold mtY; rw [e3]; rfl
    rw [ht] at heg
    have HEG := Lib.hid heg
    rw [e1, e2, e3]
    clear e1 e2 e3 ht hT heg
    go_enter Tryz.func12, Tryz.ntmps12
    have F1 := Lib.hid (((Fr.start (w := w) (I := [(.i64, a, xs), (.i64, b, ys)]) (by intro z hz; simp at hz; rcases hz with rfl | rfl; exact H0.out; exact H1.out)).box1 (b := w.heap.size) (by simp) [.slice a xs.length c, .slice b ys.length d] 26).box1 (b := w.heap.size + 1) (by simp) [.slice none 0 0, .slice none 0 0] 26)
    simp only [List.nil_append, List.cons_append] at F1
    go_upto_region 1 with fail
    obtain ⟨W1, hW1⟩ : ∃ W1, ((w.alloc (.cells #[.slice a xs.length c, .slice b ys.length d] 26)).alloc (.cells #[.slice none 0 0, .slice none 0 0] 26)) = W1 := ⟨_, rfl⟩
    rw [hW1] at F1 ⊢
    clear hW1
    have c0_0 := F1.out.c 0 0 rfl rfl
    have c0_1 := F1.out.c 0 1 rfl rfl
    go_wp2_with (first | (go_at_call 42; refine (HEG.out _ (F1.out.lw 0 rfl) (F1.out.lw 1 rfl)).mono ?_; rintro e w2 ⟨rfl, hb⟩; have F2 := Lib.hid (F1.out.next hb); clear hb F1 c0_0 c0_1; have d1_0 := F2.out.c 1 0 rfl rfl; have d1_1 := F2.out.c 1 1 rfl rfl; have df1_0 := F2.out.f 1 0 rfl rfl; have df1_1 := F2.out.f 1 1 rfl rfl) | fail)
    have FZ := F2.out.set 1 rfl (by simp) [.slice none 0 0, .slice none 0 0] rfl
    simp only [setL, Nat.reduceAdd, List.set_cons_zero, List.set_cons_succ] at FZ
    have y0 := FZ.c 1 0 rfl rfl
    have y1 := FZ.c 1 1 rfl rfl
    refine bodyPost_ret (v := .tuple #[.agg #[.slice none 0 0, .slice none 0 0], .int .i64 1]) ?_ rfl (retTF_none (FZ.less (.refl _) (.refl _) (List.nil_sublist _) (.refl _)))
    rw [results_ctZ rfl]
    go_simp
end Go.Proofs.YtddhhfhammmaaaaGreat
