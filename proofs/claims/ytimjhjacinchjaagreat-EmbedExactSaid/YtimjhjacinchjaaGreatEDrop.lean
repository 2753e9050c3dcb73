/- Walks: words dropped. -/
import Derived.Test.YtimjhjacinchjaaGreatEFx
import Derived.Test.YtimjhjacinchjaaGreatEmbP
import Derived.WalkMore
import Derived.Deep.RegionHeld3
import Derived.Deep.Cut
import Derived.Deep.CutBlock
import Derived.Deep.CutRange
set_option linter.unusedVariables false
set_option linter.unusedSimpArgs false
namespace Go.Proofs.YtimjhjacinchjaaGreat
open Go.RowKit Go.Rt

theorem partL_skip (G : Nat → Int) (N a : Nat) (h : G a = 0) : partL G N a = partL G N (a + 1) := by
  unfold partL
  apply List.map_congr_left
  intro j _
  by_cases h1 : j < a
  · rw [if_pos h1, if_pos (by omega)]
  · rw [if_neg h1]
    by_cases h2 : j = a
    · rw [if_pos (by omega), h2, h]
    · rw [if_neg (by omega)]
theorem retTen_err {w w' : World} {z : Int} (hb : Below w.heap.size w w') : RetTen w [] [] z (.returned (.tuple #[.agg #[.slice none 0 0, .slice none 0 0], .int .i64 z])) w' :=
  ⟨none, 0, none, 0, w'.heap.size, rfl, hb.size, Nat.le_refl _, Ints.nil _ _ _ _, ⟨⟨by simp, by decide⟩, ownB_nil _ _ _ _⟩, World.ownsRow_nil _ _ _ _, hb⟩

set_option maxHeartbeats 4000000 in
set_option maxRecDepth 100000 in
theorem drop_any (a b am : Option Addr) (c d cm f : Nat) (xs ys ms : List Int) (x : Int) (w : World) (hT : Ten w w.heap.size a c b d xs ys) (hM : Ints .i64 w w.heap.size am ms) (tT : tenB xs ys = true) (hx : isW x = true) (f0 : 8 ≤ f) (f1 : f ≤ 32) :
    Calls Tryz.prog 13 #[.agg #[.slice a xs.length c, .slice b ys.length d], .slice am ms.length cm, .int .i64 x, .int .i64 f] w (RetTen w (dropX xs ys ms x f) (dropY ys ms x f) (dropE ys ms x f)) := by
  have lT := tenB_iff.1 tT
  have hNP : (prodI xs).toNat = ys.length := by rw [← lT.2.1]; exact Int.toNat_natCast _
  have hp1 : 1 ≤ ys.length := by have := (goodB_prod lT.1).1; omega
  obtain ⟨bD, oD, eD, lD, _⟩ := hT.da.cell 0 (by omega)
  subst eD
  have hg := fun w' (hb : Below w.heap.size w w') => Lib.hid (elemGood_any a (some ⟨bD, oD, none⟩) c d xs ys w' (hT.next hb).sh (hT.next hb).da)
  rw [tT] at hg
  have hgx := fun w => Lib.hid (fxGood_any x w)
  rw [hx] at hgx
  have hgf := fun w => Lib.hid (goodF_any (f : Int) w)
  rw [decide_eq_true (show (8 : Int) ≤ f by omega), decide_eq_true (show (f : Int) ≤ 32 by omega)] at hgf
  have hnew := fun w' (hb : Below w.heap.size w w') => Lib.hid (hNP ▸ elemNew_any a c xs w' (hT.next hb).sh lT.1)
  have hmu := fun i (hi : i < ys.length) w => Lib.hid (fxMul_any (ys[i]?.getD 0) x f w (by rw [List.getElem?_eq_getElem hi]; exact lT.2.2 _ (List.getElem_mem hi)) hx f0 f1)
  have hyl := hT.da.len
  have hml := hM.len
  have HT := Lib.hid hT
  have HM := Lib.hid hM
  have hN6 : ys.length ≤ 65536 := by have := (goodB_prod lT.1).2; omega
  have hd1 := hT.d1
  have hd2 := hT.d2
  clear lT hNP tT hx hT hM
  go_enter Tryz.func13, Tryz.ntmps13
  by_cases hne : ms.length = ys.length
  · as_aux_lemma =>
      have hE : dropE ys ms x f = if ((List.range ys.length).all fun j => isW (dropV ms ys x f j)) = true then 0 else 3 := by unfold dropE; rw [if_pos hne]
      have hX : dropX xs ys ms x f = if dropE ys ms x f = 0 then xs else [] := rfl
      have hY : dropY ys ms x f = if dropE ys ms x f = 0 then (List.range ys.length).map (dropV ms ys x f) else [] := rfl
      have hG0 : ∀ i, ms[i]?.getD 0 = 0 → dropV ms ys x f i = 0 := fun i h => by unfold dropV; rw [if_pos h]
      have hG1 : ∀ i, ms[i]?.getD 0 ≠ 0 → shI (ys[i]?.getD 0 * x) f = dropV ms ys x f i := fun i h => by unfold dropV; rw [if_neg h]
      generalize dropE ys ms x f = ZE at hE hX hY ⊢
      generalize dropX xs ys ms x f = ZX at hX ⊢
      generalize dropY ys ms x f = ZY at hY ⊢
      generalize dropV ms ys x f = G at *
      have HE := Lib.hid hE
      have HX := Lib.hid hX
      have HY := Lib.hid hY
      have HG0 := Lib.hid hG0
      have HG1 := Lib.hid hG1
      have HNE := Lib.hid hne
      obtain ⟨bM, oM, eM, lM, _⟩ := HM.out.cell 0 (by omega)
      subst eM
      have hn2 : ((ms.length : Int) != (ys.length : Int)) = false := by rw [hne]; simp
      clear hE hX hY hG0 hG1 hne
      go_upto_region 3 with (first | (go_at_call 24; refine (hg _ (by (repeat' (first | exact Below.refl _ _ | refine below_drewN ?_ _ | refine Below.drew ?_ | refine Below.setCell ?_ (by first | omega | (simp <;> omega)) _ | refine Below.alloc ?_ (by first | omega | (simp <;> omega)) _)))).out.mono ?_; rintro e w1 ⟨rfl, hb⟩; have HB1 : Hid (Below w.heap.size w w1) := Lib.hid (Below.trans (by (repeat' (first | exact Below.refl _ _ | refine below_drewN ?_ _ | refine Below.drew ?_ | refine Below.setCell ?_ (by first | omega | (simp <;> omega)) _ | refine Below.alloc ?_ (by first | omega | (simp <;> omega)) _))) (hb.mono (by first | omega | (simp <;> omega)))); have hs1 := hb.size; (try simp at hs1); have p := Box2.below (b := w.heap.size) (v0 := .slice a xs.length c) (v1 := .slice (some ⟨bD, oD, none⟩) ys.length d) (by constructor <;> go_simp) hb (by first | omega | (simp <;> omega)); have Hp := Lib.hid p; obtain ⟨p0, p1, p2, p3⟩ := p; have q := Box2.below (b := w.heap.size + 1) (v0 := .slice none 0 0) (v1 := .slice none 0 0) (by constructor <;> go_simp) hb (by first | omega | (simp <;> omega)); have Hq := Lib.hid q; obtain ⟨q0, q1, q2, q3⟩ := q; clear hb) | (go_at_call 29; refine (hgx _).out.mono ?_; rintro e w' ⟨rfl, rfl⟩) | (go_at_call 30; refine (hgf _).out.mono ?_; rintro e w' ⟨rfl, rfl⟩))
      have hw1 := HB1.out.size
      go_upto_region 6 with (go_at_call 31; refine (hnew _ HB1.out).out.mono ?_; rintro e w4 ⟨a1, c1, b1, d1, mid, rfl, hm1, hm2, hI1, ⟨hcap1, hsh1⟩, hO1, hb⟩; have HCAP := Lib.hid hcap1; have HSH1 := Lib.hid hsh1; have hs4 := hb.size; have HI1 := Lib.hid hI1; have HO1 := Lib.hid hO1; have Z4 := Hp.out.below hb (by omega); have Z8 := Hq.out.below hb (by omega); have HB4 := Lib.hid (HB1.out.trans (hb.mono hw1)); have HZ4 := Lib.hid Z4; have HZ8 := Lib.hid Z8; clear hb hI1 hO1 hcap1 hsh1 p0 p1 p2 p3 q0 q1 q2 q3; obtain ⟨p0, p1, p2, p3⟩ := Z4; obtain ⟨q0, q1, q2, q3⟩ := Z8)
      obtain ⟨W5, hW5⟩ : ∃ W5 : World, w4.alloc (.cells #[.slice a1 xs.length c1, .slice b1 ys.length d1] 26) = W5 := ⟨_, rfl⟩
      have b5 : Below w4.heap.size w4 W5 := by rw [← hW5]; exact (Below.refl _ _).alloc (Nat.le_refl _) _
      have s5 : W5.heap.size = w4.heap.size + 1 := by rw [← hW5]; simp
      have X5 : Box2 W5 w4.heap.size (.slice a1 xs.length c1) (.slice b1 ys.length d1) := by rw [← hW5]; exact box2_new _ _ _ _
      have X4 := HZ4.out.below b5 (by omega)
      have X8 := HZ8.out.below b5 (by omega)
      have HI5 := Lib.hid (HI1.out.below b5 hm2)
      replace HSH1 := Lib.hid (HSH1.out.below b5 hm2)
      have hO5 := own_below HO1.out b5 (Nat.le_refl _)
      have hbw5 : Below w.heap.size w W5 := HB4.out.trans (b5.mono HB4.out.size)
      rw [hW5]
      clear hW5 HZ4 HZ8 HI1 p0 p1 p2 p3 q0 q1 q2 q3 b5
      obtain ⟨g, cap, hgg, hg0, hg1⟩ : ∃ g cap, Value.slice b1 ys.length d1 = .slice (some ⟨g, 0, none⟩) ys.length cap ∧ mid ≤ g ∧ g < w4.heap.size := by
        obtain ⟨aa, cc, he, hh⟩ := own_shape HO1.out
        rcases hh with hh | ⟨g, hg, h1, h2⟩
        · omega
        · exact ⟨g, cc, by rw [he, hg], h1, h2⟩
      cases hgg
      have HF0 : Hid (Fill W5 W5 mid w4.heap.size g d1 ys.length (.slice a1 xs.length c1) (.slice (some ⟨g, 0, none⟩) ys.length d1) (partL G ys.length 0)) := Lib.hid ⟨Nat.le_refl _, Below.refl _ _, by rw [partL_zero]; exact hO5, X5⟩
      have HX4 := Lib.hid X4
      have HX8 := Lib.hid X8
      have HBW5 := Lib.hid hbw5
      generalize hQ : w4.heap.size = Q at *
      have hQ0 : mid ≤ Q := by omega
      have hQg2 : Q ≠ g := by omega
      have hQg : ¬ Q = g := hQg2
      have hw5 : w.heap.size + 1 < W5.heap.size := by omega
      have hwm : w.heap.size + 1 < mid := by omega
      have hL1 : w.heap.size + 1 < w1.heap.size := by omega
      have hB3 : w1.heap.size ≤ mid := hm1
      have hdm : w.heap.size ≤ mid := by omega
      have hcd := own_cap HO1.out
      obtain ⟨u0, u1, u2, u3⟩ := X4
      clear hO5 X5 X8 hbw5 HO1 hm1 hm2 hs4 hs1 s5 hcd Hp Hq hQ hg hgx hgf hnew HB4
      go_wp2
      go_loopw [42] (fun s42 wr => ∃ i : Nat, i ≤ ys.length ∧ s42 = .int .i64 i ∧ Hid (∀ j, j < i → isW (G j) = true) ∧ Hid (Fill W5 wr mid Q g d1 ys.length (.slice a1 xs.length c1) (.slice (some ⟨g, 0, none⟩) ys.length d1) (partL G ys.length i))) (fun s42 _ => ys.length - (intOf s42).toNat)
      case atStart => exact ⟨0, Nat.zero_le _, rfl, Lib.hid (by simp), HF0⟩
      case round =>
        obtain ⟨i, hi, rfl, HG, HF⟩ := hrel
        obtain ⟨wo, rfl⟩ : ∃ wo : World, wo = wr := ⟨_, rfl⟩
        clear HF0
        have zs := HF.out.sz
        have hBW := HBW5.out.trans (HF.out.bel.mono hdm)
        have Y4 := HX4.out.below HF.out.bel (by omega)
        have Y8 := HX8.out.below HF.out.bel (by omega)
        obtain ⟨u0, u1, u2, u3⟩ := Y4
        obtain ⟨v0, v1, v2, v3⟩ := Y8
        obtain ⟨t0, t1, t2, t3⟩ := HF.out.box
        have HBW := Lib.hid hBW
        have HBW := Lib.hid hBW
        by_cases hlt : i < ys.length
        · have hIw := HT.out.below hBW (Nat.le_refl _)
          have hmw := HM.out.below hBW (Nat.le_refl _)
          obtain ⟨b2, o2, e2, l2, cy⟩ := hIw.da.cell i hlt
          cases e2
          obtain ⟨b3, o3, e3, l3, cm⟩ := hmw.cell i (by rw [HNE.out]; exact hlt)
          cases e3
          have him : i < ms.length := by rw [HNE.out]; exact hlt
          have hmi := hmu i hlt
          obtain ⟨y, hy⟩ : ∃ y, ys[i]?.getD 0 = y := ⟨_, rfl⟩
          obtain ⟨m, hm⟩ : ∃ m, ms[i]?.getD 0 = m := ⟨_, rfl⟩
          rw [hy] at cy hmi
          rw [hm] at cm
          have hg0 := HG0.out i
          have hg1 := HG1.out i
          rw [hm] at hg0 hg1
          rw [hy] at hg1
          clear hy hm hIw hmw hBW
          by_cases hm0 : m = 0
          · have hGi := hg0 hm0
            have HF2 := HF.out
            rw [partL_skip G _ i hGi] at HF2
            have HF3 := Lib.hid HF2
            have HG3 : Hid (∀ j, j < i + 1 → isW (G j) = true) := Lib.hid (fun j hj => by
              by_cases h : j < i
              · exact HG.out j h
              · rw [show j = i by omega, hGi]; decide)
            clear hGi hg0 hg1 hmi HF2
            subst hm0
            go_wp2
            go_roundw
            case rel => exact ⟨i + 1, by omega, by go_num, HG3, HF3⟩
            case measure => simp [intOf]; omega
          · have hmb : (m == 0) = false := by simp; exact hm0
            have hGi := hg1 hm0
            rw [hGi] at hmi
            clear hGi hg0 hg1 hm0
            have hmv := fun w => hmi w
            cases hg : isW (G i) with
            | false =>
              have hv : wordV (G i) = 0 := by unfold wordV; rw [hg]; rfl
              have he : wordE (G i) = 3 := by unfold wordE; rw [hg]; rfl
              have HZ : Hid (ZE = 3) := Lib.hid (by
                rw [HE.out, if_neg]
                intro h
                have := List.all_eq_true.1 h i (by simp; exact hlt)
                rw [hg] at this
                cases this)
              rw [hv, he] at hmi
              clear hv he hg hmv
              go_wp2_with (go_at_call 32; refine (hmi _).out.mono ?_; rintro e w6 ⟨he, hb⟩; unfold RetV at he; subst he; have F2 := HF.out.next hb; have HF3 := Lib.hid F2; have hz := F2.sz; have HBW6 := Lib.hid (HBW5.out.trans (F2.bel.mono hdm)); have Y8 := HX8.out.below F2.bel (by omega); obtain ⟨fc1, fc2⟩ := F2.cell i hlt; clear u0 u1 u2 u3 v0 v1 v2 v3 t0 t1 t2 t3 hb; obtain ⟨v0, v1, v2, v3⟩ := Y8; obtain ⟨t0, t1, t2, t3⟩ := F2.box; clear F2)
              (try simp only [Exit.noGoto, Exit.inBlock, Exit.then])
              refine bodyPost_ret (v := .tuple #[.agg #[.slice none 0 0, .slice none 0 0], .int .i64 3]) (by rw [results_ct rfl]; go_simp) rfl ?_
              exact retTen_bad HZ HX HY ((HBW6.out.setCell (by simp) _).setCell (by simp) _)
            | true =>
              have hv : wordV (G i) = G i := by unfold wordV; rw [hg]; rfl
              have he : wordE (G i) = 0 := by unfold wordE; rw [hg]; rfl
              have HG3 : Hid (∀ j, j < i + 1 → isW (G j) = true) := Lib.hid (fun j hj => by
                by_cases h : j < i
                · exact HG.out j h
                · rw [show j = i by omega]; exact hg)
              rw [hv, he] at hmi
              clear hv he hg hmv
              go_wp2_with (go_at_call 32; refine (hmi _).out.mono ?_; rintro e w6 ⟨he, hb⟩; unfold RetV at he; subst he; have F2 := HF.out.next hb; have HF3 := Lib.hid F2; have hz := F2.sz; have HBW6 := Lib.hid (HBW5.out.trans (F2.bel.mono hdm)); have Y8 := HX8.out.below F2.bel (by omega); obtain ⟨fc1, fc2⟩ := F2.cell i hlt; clear u0 u1 u2 u3 v0 v1 v2 v3 t0 t1 t2 t3 hb; obtain ⟨v0, v1, v2, v3⟩ := Y8; obtain ⟨t0, t1, t2, t3⟩ := F2.box; clear F2)
              have HF4 := Lib.hid (HF3.out.set i (G i) hQg2)
              rw [partL_set] at HF4
              go_roundw
              case rel => exact ⟨i + 1, by omega, by go_num, HG3, HF4⟩
              case measure => simp [intOf]; omega
        · have hie : i = ys.length := by omega
          rw [hie] at HG HF
          have hlt2 : ¬ (i : Int) < (ys.length : Int) := by omega
          clear hie hlt hi
          go_wp2
          (try simp only [Exit.noGoto, Exit.inBlock, Exit.then])
          refine bodyPost_ret (v := .tuple #[.agg #[.slice a1 xs.length c1, .slice (some ⟨g, 0, none⟩) ys.length d1], .int .i64 0]) (by rw [results_ct rfl]; go_simp) rfl ?_
          exact retTen_good (q := w.heap.size + 1) HE HX HY HG HCAP HSH1 HF HI5 hL1 hw1 hB3 (by omega) HBW _ _
  · as_aux_lemma =>
      have e0 : dropE ys ms x f = 2 := by unfold dropE; rw [if_neg hne]
      have e1 : dropX xs ys ms x f = [] := by unfold dropX; rw [e0, if_neg (by decide)]
      have e2 : dropY ys ms x f = [] := by unfold dropY; rw [e0, if_neg (by decide)]
      rw [e0, e1, e2]
      have hn2 : ¬ (ms.length : Int) = (ys.length : Int) := by omega
      have hn3 : ((ms.length : Int) != (ys.length : Int)) = true := by simp; omega
      clear e0 e1 e2 hne hmu hnew
      go_wp2_with (first | (go_at_call 24; refine (hg _ (by (repeat' (first | exact Below.refl _ _ | refine below_drewN ?_ _ | refine Below.drew ?_ | refine Below.setCell ?_ (by first | omega | (simp <;> omega)) _ | refine Below.alloc ?_ (by first | omega | (simp <;> omega)) _)))).out.mono ?_; rintro e w1 ⟨rfl, hb⟩; have HB1 : Hid (Below w.heap.size w w1) := Lib.hid (Below.trans (by (repeat' (first | exact Below.refl _ _ | refine below_drewN ?_ _ | refine Below.drew ?_ | refine Below.setCell ?_ (by first | omega | (simp <;> omega)) _ | refine Below.alloc ?_ (by first | omega | (simp <;> omega)) _))) (hb.mono (by first | omega | (simp <;> omega)))); have hs1 := hb.size; (try simp at hs1); have p := Box2.below (b := w.heap.size) (v0 := .slice a xs.length c) (v1 := .slice (some ⟨bD, oD, none⟩) ys.length d) (by constructor <;> go_simp) hb (by first | omega | (simp <;> omega)); have Hp := Lib.hid p; obtain ⟨p0, p1, p2, p3⟩ := p; have q := Box2.below (b := w.heap.size + 1) (v0 := .slice none 0 0) (v1 := .slice none 0 0) (by constructor <;> go_simp) hb (by first | omega | (simp <;> omega)); have Hq := Lib.hid q; obtain ⟨q0, q1, q2, q3⟩ := q; clear hb) | (go_at_call 29; refine (hgx _).out.mono ?_; rintro e w' ⟨rfl, rfl⟩) | (go_at_call 30; refine (hgf _).out.mono ?_; rintro e w' ⟨rfl, rfl⟩))
      (try simp only [Exit.noGoto, Exit.inBlock, Exit.then])
      have hw1 := HB1.out.size
      refine bodyPost_ret (v := .tuple #[.agg #[.slice none 0 0, .slice none 0 0], .int .i64 2]) (by rw [results_ct rfl]; go_simp) rfl ?_
      exact retTen_err ((HB1.out.setCell (by simp) _).setCell (by simp) _)
end Go.Proofs.YtimjhjacinchjaaGreat
