/- Walk: the shape of a product, by the reference. -/
import Derived.Test.YtddhhfhammmaaaaGreatMOut
import Derived.WalkMore
import Derived.Deep.RegionLaw
import Derived.Deep.Cut
set_option linter.unusedVariables false
set_option linter.unusedSimpArgs false
namespace Go.Proofs.YtddhhfhammmaaaaGreat
open Go.RowKit Go.Rt

theorem out_bad {xs ys : List Int} (h : fitsB xs ys = false) : outE xs ys = 2 ∧ outR xs ys = [] := by
  have e : outE xs ys = 2 := by unfold outE; rw [h]; rfl
  exact ⟨e, by unfold outR; rw [e]; rfl⟩
theorem out_good {xs ys : List Int} (hfit : fitsB xs ys = true) (hwf : ∀ x ∈ xs, (Lit.int .i64 x).wf = true) (hwf2 : ∀ x ∈ ys, (Lit.int .i64 x).wf = true) (hn : 2 ≤ ys.length) :
    (outE xs ys = if goodB (outL xs ys) = true then 0 else 5) ∧ (outL xs ys).length = xs.length - 1 + 1 ∧ outL xs ys = xs.take (xs.length - 1) ++ [ys[ys.length - 1]?.getD 0] ∧ (Lit.int .i64 (ys[ys.length - 1]?.getD 0)).wf = true ∧ ∀ x ∈ outL xs ys, (Lit.int .i64 x).wf = true := by
  have hY : outL xs ys = xs.take (xs.length - 1) ++ [ys[ys.length - 1]?.getD 0] := rfl
  have hYw : (Lit.int .i64 (ys[ys.length - 1]?.getD 0)).wf = true := by rw [List.getElem?_eq_getElem (show ys.length - 1 < ys.length by omega)]; exact hwf2 _ (List.getElem_mem _)
  have hl1 : (xs.take (xs.length - 1)).length = xs.length - 1 := by simp
  refine ⟨by unfold outE; rw [hfit]; rfl, by rw [hY, List.length_append, hl1]; rfl, hY, hYw, ?_⟩
  intro x hx
  rw [hY] at hx
  rcases List.mem_append.1 hx with h | h
  · exact hwf x (List.mem_of_mem_take h)
  · simp at h; rw [h]; exact hYw
theorem take_step {xs ys : List Int} {j : Nat} (h : xs.take j = ys.take j) (h1 : j < xs.length) (h2 : j < ys.length) (he : xs[j]?.getD 0 = ys[j]?.getD 0) : xs.take (j + 1) = ys.take (j + 1) := by
  rw [List.getElem?_eq_getElem h1, List.getElem?_eq_getElem h2] at he
  rw [take_snoc xs j h1, take_snoc ys j h2, h]
  simp only [Option.getD_some] at he
  rw [he]
theorem take_differs {xs ys : List Int} {j m : Nat} (hm : j < m) (h1 : j < xs.length) (h2 : j < ys.length) (he : xs[j]?.getD 0 ≠ ys[j]?.getD 0) : xs.take m ≠ ys.take m := by
  intro h
  have := congrArg (fun l : List Int => l[j]?.getD 0) h
  simp only [List.getElem?_take, if_pos hm] at this
  exact he this

set_option maxHeartbeats 4000000 in
set_option maxRecDepth 100000 in
theorem mulShape_any (a a2 : Option Addr) (c c2 : Nat) (xs ys : List Int) (w : World) (h : Ints .i64 w w.heap.size a xs) (h2 : Ints .i64 w w.heap.size a2 ys) (hx4 : xs.length ≤ 4) (hy4 : ys.length ≤ 4) (hc1 : xs.length ≤ c) (hc2 : ys.length ≤ c2) (hc3 : c ≤ 9223372036854775807) (hc4 : c2 ≤ 9223372036854775807) :
    Calls Tryz.prog 19 #[.slice a xs.length c, .slice a2 ys.length c2] w (RetOut w (outR xs ys) (outE xs ys)) := by
  have hm := h.len
  have hm2 := h2.len
  have hwf := h.wf
  have hwf2 := h2.wf
  by_cases hn2 : xs.length < 2
  · have i1 : (xs.length : Int) < 2 := by omega
    have HE : Hid (outE xs ys = 2 ∧ outR xs ys = []) := Lib.hid (out_bad (by
        unfold fitsB; rw [decide_eq_false (show ¬ 2 ≤ xs.length by omega)]; rfl))
    clear h h2 hn2
    go_enter Tryz.func19, Tryz.ntmps19
    go_upto_region 2 with fail
    go_quiet (fail)
    go_wp2
    refine bodyPost_ret (v := .tuple #[.slice none 0 0, .int .i64 2]) (by rw [results_tmp2 rfl]; go_simp) rfl ?_
    show RetOut w (outR xs ys) (outE xs ys) _ _
    rw [HE.out.1, HE.out.2]
    exact ⟨_, rfl, World.ownsRow_nil _ _ _ _, below_drewN (Below.refl _ _) _⟩
  · have i1 : ¬ (xs.length : Int) < 2 := by omega
    by_cases hmm : ys.length = 2 ∨ ys.length = xs.length
    · have i2 : ¬ (ys.length : Int) < 2 := by omega
      have hn : 2 ≤ xs.length ∧ 2 ≤ ys.length := by omega
      obtain ⟨b, off, rfl, hlb, hcell⟩ := h.cell (xs.length - 1) (by omega)
      obtain ⟨b2, off2, rfl, hlb2, hcell2⟩ := h2.cell (ys.length - 2) (by omega)
      have hcellx : ∀ j, j < xs.length → w.cell? ⟨b, off + j, none⟩ = some (.int .i64 (xs[j]?.getD 0)) := fun j hj => by obtain ⟨b', o', e, _, hc⟩ := h.cell j hj; cases e; exact hc
      have hcelly : ∀ j, j < ys.length → w.cell? ⟨b2, off2 + j, none⟩ = some (.int .i64 (ys[j]?.getD 0)) := fun j hj => by obtain ⟨b', o', e, _, hc⟩ := h2.cell j hj; cases e; exact hc
      have HCX := Lib.hid hcellx
      have HCY := Lib.hid hcelly
      clear hcellx hcelly
      have ew1 : IntKind.i64.wrap ((xs.length : Int) - 1) = ((xs.length - 1 : Nat) : Int) := by rw [wrapI]; omega
      have ew2 : IntKind.i64.wrap ((ys.length : Int) - 2) = ((ys.length - 2 : Nat) : Int) := by rw [wrapI]; omega
      have ew3 : IntKind.i64.wrap ((ys.length : Int) - 1) = ((ys.length - 1 : Nat) : Int) := by rw [wrapI]; omega
      have eb1 : xs.length - 1 < xs.length := by omega
      have eb2 : ys.length - 2 < ys.length := by omega
      have hl1 : (xs.take (xs.length - 1)).length = xs.length - 1 := by simp
      have hcl0 := fun w' (hb : Below w.heap.size w w') => Lib.hid (copyNumbers_any (some ⟨b, off, none⟩) c (xs.take (xs.length - 1)) w' (((intsTake h _).below hb (Nat.le_refl _)).mono hb.size) (by omega))
      rw [hl1] at hcl0
      by_cases heq : xs[xs.length - 1]?.getD 0 = ys[ys.length - 2]?.getD 0
      · have HHQ := Lib.hid heq
        have e5 : (ys[ys.length - 2]?.getD 0 != ys[ys.length - 2]?.getD 0) = false := by simp
        rw [heq] at hcell
        have HF : Hid (fitsB xs ys = (decide (ys.length ≠ xs.length) || decide (xs.take (xs.length - 2) = ys.take (ys.length - 2)))) := Lib.hid (by
          unfold fitsB
          rw [decide_eq_true (show 2 ≤ xs.length by omega), decide_eq_true heq]
          rcases hmm with h1 | h1
          · rw [decide_eq_true h1]; simp
          · rw [decide_eq_true h1]; simp)
        generalize ys[ys.length - 2]?.getD 0 = Y2 at hcell hcell2 e5
        clear h h2 heq
        by_cases h3 : ys.length = xs.length
        · have e4 : ((ys.length : Int) != (xs.length : Int)) = false := by simp; omega
          have e6 : ((ys.length : Int) == (xs.length : Int)) = true := by simp; omega
          have H3 := Lib.hid h3
          have HN := Lib.hid hn
          have HMM := Lib.hid hmm
          have hen : ∃ t : Bool, ((ys.length : Int) != 2) = t := ⟨_, rfl⟩
          clear h3 hmm
          by_cases h4 : ys.length = 2
          · have e3 : ((ys.length : Int) != 2) = false := by simp; omega
            clear h4 hen hn
            go_enter Tryz.func19, Tryz.ntmps19
            go_upto_region 2 with fail
            go_quiet (fail)
            clear hcell hcell2 e5
            go_wp2_with fail
            go_loopw [7] (fun i wr => ∃ j q : Nat, j + 2 ≤ xs.length ∧ i = .int .i64 j ∧ Hid (xs.take j = ys.take j) ∧ wr = w.drewN q) (fun i _ => xs.length - (intOf i).toNat)
            case atStart => exact ⟨0, _, by omega, rfl, Lib.hid rfl, rfl⟩
            case round =>
              obtain ⟨j, q, hj, rfl, HT, rfl⟩ := hrel
              by_cases hjl : j + 2 < xs.length
              · have c1 := HCX.out j (by omega)
                have c2 := HCY.out j (by have := H3.out; omega)
                have hi0 : (0 : Int) ≤ (j : Int) := by omega
                have hi1 : (j : Int) < (xs.length : Int) := by omega
                have hi2 : (j : Int) < (ys.length : Int) := by have := H3.out; omega
                have hi3 : (j : Int) + 2 < (xs.length : Int) := by omega
                by_cases hxy : xs[j]?.getD 0 = ys[j]?.getD 0
                · have HT2 := Lib.hid (take_step HT.out (by omega) (by have := H3.out; omega) hxy)
                  rw [hxy] at c1
                  clear hxy
                  generalize ys[j]?.getD 0 = y at c1 c2
                  have e8 : (y != y) = false := by simp
                  go_upto_region 8 with fail
                  go_quiet (fail)
                  go_wp2
                  go_roundw
                  case rel => exact ⟨j + 1, _, by omega, by go_num, HT2, rfl⟩
                  case measure => simp [intOf]; omega
                · have e8 : (xs[j]?.getD 0 != ys[j]?.getD 0) = true := by simp; exact hxy
                  have HE : Hid (outE xs ys = 2 ∧ outR xs ys = []) := Lib.hid (out_bad (by
                      have h3 := H3.out
                      rw [HF.out, decide_eq_false (show ¬ ys.length ≠ xs.length by omega), Bool.false_or, h3, decide_eq_false (take_differs (m := xs.length - 2) (j := j) (by omega) (by omega) (by omega) hxy)]))
                  clear hxy
                  generalize xs[j]?.getD 0 = x at c1 e8
                  generalize ys[j]?.getD 0 = y at c2 e8
                  go_upto_region 8 with fail
                  go_quiet (fail)
                  go_wp2
                  refine bodyPost_ret (v := .tuple #[.slice none 0 0, .int .i64 2]) (by rw [results_tmp2 rfl]; go_simp) rfl ?_
                  show RetOut w (outR xs ys) (outE xs ys) _ _
                  rw [HE.out.1, HE.out.2]
                  exact ⟨_, rfl, World.ownsRow_nil _ _ _ _, below_drewN (below_drewN (Below.refl _ _) _) _⟩
              · have hje : j = xs.length - 2 := by omega
                have hfit : fitsB xs ys = true := by
                  have h3 := H3.out
                  have hT := HT.out
                  rw [HF.out, h3]
                  rw [hje] at hT
                  simp [hT]
                have hn := HN.out
                have hi3 : ¬ (j : Int) + 2 < (xs.length : Int) := by omega
                clear hje
                go_upto_region 10 with fail
                obtain ⟨W, hW⟩ : ∃ W : World, w.drewN q = W := ⟨_, rfl⟩
                have hBW : Below w.heap.size w W := by rw [← hW]; exact below_drewN (Below.refl _ _) _
                have hWs : W.heap.size = w.heap.size := by rw [← hW]; rfl
                have hcy := (hBW.cell (p := ⟨b2, off2 + (ys.length - 1), none⟩) hlb2).trans (HCY.out (ys.length - 1) (by omega))
                have hcl := fun w' (hb : Below W.heap.size W w') => hcl0 w' (hBW.trans (hb.mono (by omega)))
                obtain ⟨hoE, hlo, hY, hYw, hwfo⟩ := out_good hfit hwf hwf2 hn.2
                generalize ys[ys.length - 1]?.getD 0 = Y at hY hcy hYw
                rw [hW]
                have ec1 : xs.length - 1 ≤ c := by omega
                have eb2 : ys.length - 1 < ys.length := by omega
                have hlq : b2 < W.heap.size := by omega
                clear HCX HCY
                have HOE := Lib.hid hoE
                have HLO := Lib.hid hlo
                have HYY := Lib.hid hY
                have HBW := Lib.hid hBW
                have HL1 := Lib.hid hl1
                have HWFO := Lib.hid hwfo
                have HWS := Lib.hid hWs
                clear hcl0 hW hoE hlo hY hBW hl1 hfit hwfo
                go_region_law (first | (go_simp; go_at_call 32; refine (hcl _ (by (repeat' (first | exact Below.refl _ _ | refine below_drewN ?_ _ | refine Below.drew ?_ | refine Below.setCell ?_ (by first | omega | (simp <;> omega)) _ | refine Below.alloc ?_ (by first | omega | (simp <;> omega)) _)))).out.mono ?_; rintro e w1 ⟨v, rfl, hown, hb⟩; rw [HL1.out] at hown; have hs1 := hb.size; (try simp at hs1); have zc := fun hq => hb.cell (p := ⟨W.heap.size, 0, none⟩) hq; (try simp at zc); have hWw : Below W.heap.size W w1 := Below.trans (by (repeat' (first | exact Below.refl _ _ | refine below_drewN ?_ _ | refine Below.drew ?_ | refine Below.setCell ?_ (by first | omega | (simp <;> omega)) _ | refine Below.alloc ?_ (by first | omega | (simp <;> omega)) _))) (hb.mono (by first | omega | (simp <;> omega))); have hcy1 := (hWw.cell (p := ⟨b2, off2 + (ys.length - 1), none⟩) hlq).trans hcy; have HBW1 := Lib.hid hWw; clear hWw; have HB1 := Lib.hid hb; have HO1 := Lib.hid hown; obtain ⟨a1, c1, rfl, _⟩ := own_shape hown; clear hb hown) | (refine step_append1 23 3 .i64 infoInt Tryz.underlying23 W.heap.size (.slice a1 (xs.length - 1) c1) (xs.length - 1) (xs.take (xs.length - 1)) Y 1 ⟨w1.heap.size, 0, none⟩ (.tmp 66) (.tmp 73) rfl rfl ?_ ?_ ?_ ?_ ?_ ?_ ?_; (focus (simp [Act.eval, Act.put]; done)); (focus (refine (own_mono (base' := W.heap.size) HO1.out ?_).alloc _; (first | omega | (simp <;> omega)))); (focus (simp [Act.eval, Act.put]; done)); (focus exact cell_one_new _ _ _ 0 _ rfl); (focus omega); (focus (first | omega | (simp <;> omega))); (intro v' w2 hown2 hbel2; have HO2 := Lib.hid hown2; have HB2 := Lib.hid (hbel2 W.heap.size W (Nat.le_refl _) (Below.alloc HBW1.out HBW1.out.size _)); obtain ⟨a3, c3, rfl, _⟩ := own_shape hown2; clear hown2 hbel2)) | (refine step_append1 23 3 .i64 infoInt Tryz.underlying23 W.heap.size (.slice a1 (xs.length - 1) c1) (xs.length - 1) (xs.take (xs.length - 1)) Y 1 ⟨W.heap.size, 0, none⟩ (.tmp 66) (.tmp 73) rfl rfl ?_ ?_ ?_ ?_ ?_ ?_ ?_; (focus (simp [Act.eval, Act.put]; done)); (focus (refine own_mono HO1.out ?_; (first | omega | (simp <;> omega)))); (focus (simp [Act.eval, Act.put]; done)); (focus (first | assumption | exact zc)); (focus omega); (focus (first | omega | (simp <;> omega))); (intro v' w2 hown2 hbel2; have HO2 := Lib.hid hown2; have HB2 := Lib.hid (hbel2 W.heap.size W (Nat.le_refl _) (HBW1.out)); obtain ⟨a3, c3, rfl, _⟩ := own_shape hown2; clear hown2 hbel2)) | fail)
                all_goals
                  have hO := HO2.out
                  rw [← HYY.out, ← HLO.out] at hO
                  obtain ⟨a4, c4, he, hI⟩ := own_ints hO HWFO.out
                  have ha4 : a3 = a4 := by injection he
                  have hg := Lib.hid (rmay_any a3 c3 w2.heap.size (outL xs ys) w2 (by rw [ha4]; exact hI))
                  rw [HLO.out] at hg
                  have HOW := Lib.hid hO
                  have HBF := Lib.hid (HBW.out.trans (HB2.out.mono (by omega)))
                  clear hO he hI ha4 HO2 HB2 HB1 HO1 HBW1
                  cases hgo : goodB (outL xs ys) with
                  | false =>
                    have HE : Hid (outE xs ys = 5 ∧ outR xs ys = []) := Lib.hid (by have := HOE.out; rw [hgo] at this; refine ⟨this, ?_⟩; unfold outR; rw [this]; rfl)
                    rw [hgo] at hg
                    clear hgo
                    go_wp2_with (first | (go_at_call 16; refine hg.out.mono ?_; rintro e w' ⟨rfl, rfl⟩))
                    refine bodyPost_ret (v := .tuple #[.slice none 0 0, .int .i64 5]) (by rw [results_tmp2 rfl]; go_simp) rfl ?_
                    show RetOut w (outR xs ys) (outE xs ys) _ _
                    rw [HE.out.1, HE.out.2]
                    exact ⟨_, rfl, World.ownsRow_nil _ _ _ _, HBF.out⟩
                  | true =>
                    have HE : Hid (outE xs ys = 0 ∧ outR xs ys = outL xs ys) := Lib.hid (by have := HOE.out; rw [hgo] at this; refine ⟨this, ?_⟩; unfold outR; rw [this]; rfl)
                    rw [hgo] at hg
                    clear hgo
                    go_wp2_with (first | (go_at_call 16; refine hg.out.mono ?_; rintro e w' ⟨rfl, rfl⟩))
                    refine bodyPost_ret (v := .tuple #[.slice a3 (xs.length - 1 + 1) c3, .int .i64 0]) (by rw [results_tmp2 rfl]; go_simp) rfl ?_
                    show RetOut w (outR xs ys) (outE xs ys) _ _
                    rw [HE.out.1, HE.out.2]
                    refine ⟨_, rfl, ?_, HBF.out⟩
                    have hO := HOW.out
                    rw [HWS.out] at hO
                    rw [← HLO.out]
                    exact hO
          · have e3 : ((ys.length : Int) != 2) = true := by simp; omega
            clear h4 hen hn
            go_enter Tryz.func19, Tryz.ntmps19
            go_upto_region 2 with fail
            go_quiet (fail)
            clear hcell hcell2 e5
            go_wp2_with fail
            go_loopw [7] (fun i wr => ∃ j q : Nat, j + 2 ≤ xs.length ∧ i = .int .i64 j ∧ Hid (xs.take j = ys.take j) ∧ wr = w.drewN q) (fun i _ => xs.length - (intOf i).toNat)
            case atStart => exact ⟨0, _, by omega, rfl, Lib.hid rfl, rfl⟩
            case round =>
              obtain ⟨j, q, hj, rfl, HT, rfl⟩ := hrel
              by_cases hjl : j + 2 < xs.length
              · have c1 := HCX.out j (by omega)
                have c2 := HCY.out j (by have := H3.out; omega)
                have hi0 : (0 : Int) ≤ (j : Int) := by omega
                have hi1 : (j : Int) < (xs.length : Int) := by omega
                have hi2 : (j : Int) < (ys.length : Int) := by have := H3.out; omega
                have hi3 : (j : Int) + 2 < (xs.length : Int) := by omega
                by_cases hxy : xs[j]?.getD 0 = ys[j]?.getD 0
                · have HT2 := Lib.hid (take_step HT.out (by omega) (by have := H3.out; omega) hxy)
                  rw [hxy] at c1
                  clear hxy
                  generalize ys[j]?.getD 0 = y at c1 c2
                  have e8 : (y != y) = false := by simp
                  go_upto_region 8 with fail
                  go_quiet (fail)
                  go_wp2
                  go_roundw
                  case rel => exact ⟨j + 1, _, by omega, by go_num, HT2, rfl⟩
                  case measure => simp [intOf]; omega
                · have e8 : (xs[j]?.getD 0 != ys[j]?.getD 0) = true := by simp; exact hxy
                  have HE : Hid (outE xs ys = 2 ∧ outR xs ys = []) := Lib.hid (out_bad (by
                      have h3 := H3.out
                      rw [HF.out, decide_eq_false (show ¬ ys.length ≠ xs.length by omega), Bool.false_or, h3, decide_eq_false (take_differs (m := xs.length - 2) (j := j) (by omega) (by omega) (by omega) hxy)]))
                  clear hxy
                  generalize xs[j]?.getD 0 = x at c1 e8
                  generalize ys[j]?.getD 0 = y at c2 e8
                  go_upto_region 8 with fail
                  go_quiet (fail)
                  go_wp2
                  refine bodyPost_ret (v := .tuple #[.slice none 0 0, .int .i64 2]) (by rw [results_tmp2 rfl]; go_simp) rfl ?_
                  show RetOut w (outR xs ys) (outE xs ys) _ _
                  rw [HE.out.1, HE.out.2]
                  exact ⟨_, rfl, World.ownsRow_nil _ _ _ _, below_drewN (below_drewN (Below.refl _ _) _) _⟩
              · have hje : j = xs.length - 2 := by omega
                have hfit : fitsB xs ys = true := by
                  have h3 := H3.out
                  have hT := HT.out
                  rw [HF.out, h3]
                  rw [hje] at hT
                  simp [hT]
                have hn := HN.out
                have hi3 : ¬ (j : Int) + 2 < (xs.length : Int) := by omega
                clear hje
                go_upto_region 10 with fail
                obtain ⟨W, hW⟩ : ∃ W : World, w.drewN q = W := ⟨_, rfl⟩
                have hBW : Below w.heap.size w W := by rw [← hW]; exact below_drewN (Below.refl _ _) _
                have hWs : W.heap.size = w.heap.size := by rw [← hW]; rfl
                have hcy := (hBW.cell (p := ⟨b2, off2 + (ys.length - 1), none⟩) hlb2).trans (HCY.out (ys.length - 1) (by omega))
                have hcl := fun w' (hb : Below W.heap.size W w') => hcl0 w' (hBW.trans (hb.mono (by omega)))
                obtain ⟨hoE, hlo, hY, hYw, hwfo⟩ := out_good hfit hwf hwf2 hn.2
                generalize ys[ys.length - 1]?.getD 0 = Y at hY hcy hYw
                rw [hW]
                have ec1 : xs.length - 1 ≤ c := by omega
                have eb2 : ys.length - 1 < ys.length := by omega
                have hlq : b2 < W.heap.size := by omega
                clear HCX HCY
                have HOE := Lib.hid hoE
                have HLO := Lib.hid hlo
                have HYY := Lib.hid hY
                have HBW := Lib.hid hBW
                have HL1 := Lib.hid hl1
                have HWFO := Lib.hid hwfo
                have HWS := Lib.hid hWs
                clear hcl0 hW hoE hlo hY hBW hl1 hfit hwfo
                go_region_law (first | (go_simp; go_at_call 32; refine (hcl _ (by (repeat' (first | exact Below.refl _ _ | refine below_drewN ?_ _ | refine Below.drew ?_ | refine Below.setCell ?_ (by first | omega | (simp <;> omega)) _ | refine Below.alloc ?_ (by first | omega | (simp <;> omega)) _)))).out.mono ?_; rintro e w1 ⟨v, rfl, hown, hb⟩; rw [HL1.out] at hown; have hs1 := hb.size; (try simp at hs1); have zc := fun hq => hb.cell (p := ⟨W.heap.size, 0, none⟩) hq; (try simp at zc); have hWw : Below W.heap.size W w1 := Below.trans (by (repeat' (first | exact Below.refl _ _ | refine below_drewN ?_ _ | refine Below.drew ?_ | refine Below.setCell ?_ (by first | omega | (simp <;> omega)) _ | refine Below.alloc ?_ (by first | omega | (simp <;> omega)) _))) (hb.mono (by first | omega | (simp <;> omega))); have hcy1 := (hWw.cell (p := ⟨b2, off2 + (ys.length - 1), none⟩) hlq).trans hcy; have HBW1 := Lib.hid hWw; clear hWw; have HB1 := Lib.hid hb; have HO1 := Lib.hid hown; obtain ⟨a1, c1, rfl, _⟩ := own_shape hown; clear hb hown) | (refine step_append1 23 3 .i64 infoInt Tryz.underlying23 W.heap.size (.slice a1 (xs.length - 1) c1) (xs.length - 1) (xs.take (xs.length - 1)) Y 1 ⟨w1.heap.size, 0, none⟩ (.tmp 66) (.tmp 73) rfl rfl ?_ ?_ ?_ ?_ ?_ ?_ ?_; (focus (simp [Act.eval, Act.put]; done)); (focus (refine (own_mono (base' := W.heap.size) HO1.out ?_).alloc _; (first | omega | (simp <;> omega)))); (focus (simp [Act.eval, Act.put]; done)); (focus exact cell_one_new _ _ _ 0 _ rfl); (focus omega); (focus (first | omega | (simp <;> omega))); (intro v' w2 hown2 hbel2; have HO2 := Lib.hid hown2; have HB2 := Lib.hid (hbel2 W.heap.size W (Nat.le_refl _) (Below.alloc HBW1.out HBW1.out.size _)); obtain ⟨a3, c3, rfl, _⟩ := own_shape hown2; clear hown2 hbel2)) | (refine step_append1 23 3 .i64 infoInt Tryz.underlying23 W.heap.size (.slice a1 (xs.length - 1) c1) (xs.length - 1) (xs.take (xs.length - 1)) Y 1 ⟨W.heap.size, 0, none⟩ (.tmp 66) (.tmp 73) rfl rfl ?_ ?_ ?_ ?_ ?_ ?_ ?_; (focus (simp [Act.eval, Act.put]; done)); (focus (refine own_mono HO1.out ?_; (first | omega | (simp <;> omega)))); (focus (simp [Act.eval, Act.put]; done)); (focus (first | assumption | exact zc)); (focus omega); (focus (first | omega | (simp <;> omega))); (intro v' w2 hown2 hbel2; have HO2 := Lib.hid hown2; have HB2 := Lib.hid (hbel2 W.heap.size W (Nat.le_refl _) (HBW1.out)); obtain ⟨a3, c3, rfl, _⟩ := own_shape hown2; clear hown2 hbel2)) | fail)
                all_goals
                  have hO := HO2.out
                  rw [← HYY.out, ← HLO.out] at hO
                  obtain ⟨a4, c4, he, hI⟩ := own_ints hO HWFO.out
                  have ha4 : a3 = a4 := by injection he
                  have hg := Lib.hid (rmay_any a3 c3 w2.heap.size (outL xs ys) w2 (by rw [ha4]; exact hI))
                  rw [HLO.out] at hg
                  have HOW := Lib.hid hO
                  have HBF := Lib.hid (HBW.out.trans (HB2.out.mono (by omega)))
                  clear hO he hI ha4 HO2 HB2 HB1 HO1 HBW1
                  cases hgo : goodB (outL xs ys) with
                  | false =>
                    have HE : Hid (outE xs ys = 5 ∧ outR xs ys = []) := Lib.hid (by have := HOE.out; rw [hgo] at this; refine ⟨this, ?_⟩; unfold outR; rw [this]; rfl)
                    rw [hgo] at hg
                    clear hgo
                    go_wp2_with (first | (go_at_call 16; refine hg.out.mono ?_; rintro e w' ⟨rfl, rfl⟩))
                    refine bodyPost_ret (v := .tuple #[.slice none 0 0, .int .i64 5]) (by rw [results_tmp2 rfl]; go_simp) rfl ?_
                    show RetOut w (outR xs ys) (outE xs ys) _ _
                    rw [HE.out.1, HE.out.2]
                    exact ⟨_, rfl, World.ownsRow_nil _ _ _ _, HBF.out⟩
                  | true =>
                    have HE : Hid (outE xs ys = 0 ∧ outR xs ys = outL xs ys) := Lib.hid (by have := HOE.out; rw [hgo] at this; refine ⟨this, ?_⟩; unfold outR; rw [this]; rfl)
                    rw [hgo] at hg
                    clear hgo
                    go_wp2_with (first | (go_at_call 16; refine hg.out.mono ?_; rintro e w' ⟨rfl, rfl⟩))
                    refine bodyPost_ret (v := .tuple #[.slice a3 (xs.length - 1 + 1) c3, .int .i64 0]) (by rw [results_tmp2 rfl]; go_simp) rfl ?_
                    show RetOut w (outR xs ys) (outE xs ys) _ _
                    rw [HE.out.1, HE.out.2]
                    refine ⟨_, rfl, ?_, HBF.out⟩
                    have hO := HOW.out
                    rw [HWS.out] at hO
                    rw [← HLO.out]
                    exact hO
        · have e4 : ((ys.length : Int) != (xs.length : Int)) = true := by simp; omega
          have e6 : ((ys.length : Int) == (xs.length : Int)) = false := by simp; omega
          have h4 : ys.length = 2 := by omega
          have e3 : ((ys.length : Int) != 2) = false := by simp; omega
          have hfit : fitsB xs ys = true := by rw [HF.out, decide_eq_true (show ys.length ≠ xs.length from h3), Bool.true_or]
          clear h3 h4 hmm
          go_enter Tryz.func19, Tryz.ntmps19
          go_upto_region 2 with fail
          go_quiet (fail)
          clear hcell hcell2 e5
          go_upto_region 10 with fail
          obtain ⟨W, hW⟩ : ∃ W : World, w.drewN nq = W := ⟨_, rfl⟩
          have hBW : Below w.heap.size w W := by rw [← hW]; exact below_drewN (Below.refl _ _) _
          have hWs : W.heap.size = w.heap.size := by rw [← hW]; rfl
          have hcy := (hBW.cell (p := ⟨b2, off2 + (ys.length - 1), none⟩) hlb2).trans (HCY.out (ys.length - 1) (by omega))
          have hcl := fun w' (hb : Below W.heap.size W w') => hcl0 w' (hBW.trans (hb.mono (by omega)))
          obtain ⟨hoE, hlo, hY, hYw, hwfo⟩ := out_good hfit hwf hwf2 hn.2
          generalize ys[ys.length - 1]?.getD 0 = Y at hY hcy hYw
          rw [hW]
          have ec1 : xs.length - 1 ≤ c := by omega
          have eb2 : ys.length - 1 < ys.length := by omega
          have hlq : b2 < W.heap.size := by omega
          clear HCX HCY
          have HOE := Lib.hid hoE
          have HLO := Lib.hid hlo
          have HYY := Lib.hid hY
          have HBW := Lib.hid hBW
          have HL1 := Lib.hid hl1
          have HWFO := Lib.hid hwfo
          have HWS := Lib.hid hWs
          clear hcl0 hW hoE hlo hY hBW hl1 hfit hwfo
          go_region_law (first | (go_simp; go_at_call 32; refine (hcl _ (by (repeat' (first | exact Below.refl _ _ | refine below_drewN ?_ _ | refine Below.drew ?_ | refine Below.setCell ?_ (by first | omega | (simp <;> omega)) _ | refine Below.alloc ?_ (by first | omega | (simp <;> omega)) _)))).out.mono ?_; rintro e w1 ⟨v, rfl, hown, hb⟩; rw [HL1.out] at hown; have hs1 := hb.size; (try simp at hs1); have zc := fun hq => hb.cell (p := ⟨W.heap.size, 0, none⟩) hq; (try simp at zc); have hWw : Below W.heap.size W w1 := Below.trans (by (repeat' (first | exact Below.refl _ _ | refine below_drewN ?_ _ | refine Below.drew ?_ | refine Below.setCell ?_ (by first | omega | (simp <;> omega)) _ | refine Below.alloc ?_ (by first | omega | (simp <;> omega)) _))) (hb.mono (by first | omega | (simp <;> omega))); have hcy1 := (hWw.cell (p := ⟨b2, off2 + (ys.length - 1), none⟩) hlq).trans hcy; have HBW1 := Lib.hid hWw; clear hWw; have HB1 := Lib.hid hb; have HO1 := Lib.hid hown; obtain ⟨a1, c1, rfl, _⟩ := own_shape hown; clear hb hown) | (refine step_append1 23 3 .i64 infoInt Tryz.underlying23 W.heap.size (.slice a1 (xs.length - 1) c1) (xs.length - 1) (xs.take (xs.length - 1)) Y 1 ⟨w1.heap.size, 0, none⟩ (.tmp 66) (.tmp 73) rfl rfl ?_ ?_ ?_ ?_ ?_ ?_ ?_; (focus (simp [Act.eval, Act.put]; done)); (focus (refine (own_mono (base' := W.heap.size) HO1.out ?_).alloc _; (first | omega | (simp <;> omega)))); (focus (simp [Act.eval, Act.put]; done)); (focus exact cell_one_new _ _ _ 0 _ rfl); (focus omega); (focus (first | omega | (simp <;> omega))); (intro v' w2 hown2 hbel2; have HO2 := Lib.hid hown2; have HB2 := Lib.hid (hbel2 W.heap.size W (Nat.le_refl _) (Below.alloc HBW1.out HBW1.out.size _)); obtain ⟨a3, c3, rfl, _⟩ := own_shape hown2; clear hown2 hbel2)) | (refine step_append1 23 3 .i64 infoInt Tryz.underlying23 W.heap.size (.slice a1 (xs.length - 1) c1) (xs.length - 1) (xs.take (xs.length - 1)) Y 1 ⟨W.heap.size, 0, none⟩ (.tmp 66) (.tmp 73) rfl rfl ?_ ?_ ?_ ?_ ?_ ?_ ?_; (focus (simp [Act.eval, Act.put]; done)); (focus (refine own_mono HO1.out ?_; (first | omega | (simp <;> omega)))); (focus (simp [Act.eval, Act.put]; done)); (focus (first | assumption | exact zc)); (focus omega); (focus (first | omega | (simp <;> omega))); (intro v' w2 hown2 hbel2; have HO2 := Lib.hid hown2; have HB2 := Lib.hid (hbel2 W.heap.size W (Nat.le_refl _) (HBW1.out)); obtain ⟨a3, c3, rfl, _⟩ := own_shape hown2; clear hown2 hbel2)) | fail)
          all_goals
            have hO := HO2.out
            rw [← HYY.out, ← HLO.out] at hO
            obtain ⟨a4, c4, he, hI⟩ := own_ints hO HWFO.out
            have ha4 : a3 = a4 := by injection he
            have hg := Lib.hid (rmay_any a3 c3 w2.heap.size (outL xs ys) w2 (by rw [ha4]; exact hI))
            rw [HLO.out] at hg
            have HOW := Lib.hid hO
            have HBF := Lib.hid (HBW.out.trans (HB2.out.mono (by omega)))
            clear hO he hI ha4 HO2 HB2 HB1 HO1 HBW1
            cases hgo : goodB (outL xs ys) with
            | false =>
              have HE : Hid (outE xs ys = 5 ∧ outR xs ys = []) := Lib.hid (by have := HOE.out; rw [hgo] at this; refine ⟨this, ?_⟩; unfold outR; rw [this]; rfl)
              rw [hgo] at hg
              clear hgo
              go_wp2_with (first | (go_at_call 16; refine hg.out.mono ?_; rintro e w' ⟨rfl, rfl⟩))
              refine bodyPost_ret (v := .tuple #[.slice none 0 0, .int .i64 5]) (by rw [results_tmp2 rfl]; go_simp) rfl ?_
              show RetOut w (outR xs ys) (outE xs ys) _ _
              rw [HE.out.1, HE.out.2]
              exact ⟨_, rfl, World.ownsRow_nil _ _ _ _, HBF.out⟩
            | true =>
              have HE : Hid (outE xs ys = 0 ∧ outR xs ys = outL xs ys) := Lib.hid (by have := HOE.out; rw [hgo] at this; refine ⟨this, ?_⟩; unfold outR; rw [this]; rfl)
              rw [hgo] at hg
              clear hgo
              go_wp2_with (first | (go_at_call 16; refine hg.out.mono ?_; rintro e w' ⟨rfl, rfl⟩))
              refine bodyPost_ret (v := .tuple #[.slice a3 (xs.length - 1 + 1) c3, .int .i64 0]) (by rw [results_tmp2 rfl]; go_simp) rfl ?_
              show RetOut w (outR xs ys) (outE xs ys) _ _
              rw [HE.out.1, HE.out.2]
              refine ⟨_, rfl, ?_, HBF.out⟩
              have hO := HOW.out
              rw [HWS.out] at hO
              rw [← HLO.out]
              exact hO
      · have e5 : (xs[xs.length - 1]?.getD 0 != ys[ys.length - 2]?.getD 0) = true := by simp; exact heq
        have HE : Hid (outE xs ys = 2 ∧ outR xs ys = []) := Lib.hid (out_bad (by
            unfold fitsB; rw [decide_eq_false heq, Bool.false_and, Bool.and_false, Bool.and_false]))
        generalize xs[xs.length - 1]?.getD 0 = X at hcell e5
        generalize ys[ys.length - 2]?.getD 0 = Y at hcell2 e5
        clear h h2 heq hcl0 hl1 hn
        rcases hmm with h1 | h1
        · skip
          by_cases h3 : ys.length = xs.length
          · skip
            have e3 : ((ys.length : Int) != 2) = false := by simp; omega
            have e4 : ((ys.length : Int) != (xs.length : Int)) = false := by simp; omega
            clear h1 h3
            go_enter Tryz.func19, Tryz.ntmps19
            go_upto_region 2 with fail
            go_quiet (fail)
            go_wp2
            refine bodyPost_ret (v := .tuple #[.slice none 0 0, .int .i64 2]) (by rw [results_tmp2 rfl]; go_simp) rfl ?_
            show RetOut w (outR xs ys) (outE xs ys) _ _
            rw [HE.out.1, HE.out.2]
            exact ⟨_, rfl, World.ownsRow_nil _ _ _ _, below_drewN (Below.refl _ _) _⟩
          · skip
            have e3 : ((ys.length : Int) != 2) = false := by simp; omega
            have e4 : ((ys.length : Int) != (xs.length : Int)) = true := by simp; omega
            clear h1 h3
            go_enter Tryz.func19, Tryz.ntmps19
            go_upto_region 2 with fail
            go_quiet (fail)
            go_wp2
            refine bodyPost_ret (v := .tuple #[.slice none 0 0, .int .i64 2]) (by rw [results_tmp2 rfl]; go_simp) rfl ?_
            show RetOut w (outR xs ys) (outE xs ys) _ _
            rw [HE.out.1, HE.out.2]
            exact ⟨_, rfl, World.ownsRow_nil _ _ _ _, below_drewN (Below.refl _ _) _⟩
        · skip
          by_cases h3 : ys.length = 2
          · skip
            have e3 : ((ys.length : Int) != 2) = false := by simp; omega
            have e4 : ((ys.length : Int) != (xs.length : Int)) = false := by simp; omega
            clear h1 h3
            go_enter Tryz.func19, Tryz.ntmps19
            go_upto_region 2 with fail
            go_quiet (fail)
            go_wp2
            refine bodyPost_ret (v := .tuple #[.slice none 0 0, .int .i64 2]) (by rw [results_tmp2 rfl]; go_simp) rfl ?_
            show RetOut w (outR xs ys) (outE xs ys) _ _
            rw [HE.out.1, HE.out.2]
            exact ⟨_, rfl, World.ownsRow_nil _ _ _ _, below_drewN (Below.refl _ _) _⟩
          · skip
            have e3 : ((ys.length : Int) != 2) = true := by simp; omega
            have e4 : ((ys.length : Int) != (xs.length : Int)) = false := by simp; omega
            clear h1 h3
            go_enter Tryz.func19, Tryz.ntmps19
            go_upto_region 2 with fail
            go_quiet (fail)
            go_wp2
            refine bodyPost_ret (v := .tuple #[.slice none 0 0, .int .i64 2]) (by rw [results_tmp2 rfl]; go_simp) rfl ?_
            show RetOut w (outR xs ys) (outE xs ys) _ _
            rw [HE.out.1, HE.out.2]
            exact ⟨_, rfl, World.ownsRow_nil _ _ _ _, below_drewN (Below.refl _ _) _⟩
    · skip
      have HE : Hid (outE xs ys = 2 ∧ outR xs ys = []) := Lib.hid (out_bad (by
          unfold fitsB; rw [decide_eq_false (show ¬ ys.length = 2 by omega), decide_eq_false (show ¬ ys.length = xs.length by omega), Bool.or_self, Bool.false_and, Bool.and_false]))
      have e3 : ((ys.length : Int) != 2) = true := by simp; omega
      have e4 : ((ys.length : Int) != (xs.length : Int)) = true := by simp; omega
      clear h h2
      go_enter Tryz.func19, Tryz.ntmps19
      go_upto_region 2 with fail
      go_quiet (fail)
      go_wp2
      refine bodyPost_ret (v := .tuple #[.slice none 0 0, .int .i64 2]) (by rw [results_tmp2 rfl]; go_simp) rfl ?_
      show RetOut w (outR xs ys) (outE xs ys) _ _
      rw [HE.out.1, HE.out.2]
      exact ⟨_, rfl, World.ownsRow_nil _ _ _ _, below_drewN (Below.refl _ _) _⟩
end Go.Proofs.YtddhhfhammmaaaaGreat
