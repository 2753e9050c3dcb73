/- Walks: the shape of a product. -/
import Derived.Test.YtjjgmdnmhfoacaaMFits
import Derived.Deep.RegionLaw
import Derived.Deep.Cut
set_option linter.unusedVariables false
set_option linter.unusedSimpArgs false
namespace Go.Proofs.Ytjjgmdnmhfoacaa
open Go.RowKit Go.Rt

/-- append of one number to a row of one's own, as one step of a region that draws. -/
theorem step_append1 {P : Program} {ops : Array Oper} {o : Oper} {a : Act} {w : World} {K : Act → World → Prop} {Q : Exit → Act → World → Prop} {E' : Prop} (T E : TypeId) (k : IntKind)
    (hinf : (P.info? E).map (fun i => (i.zero, i.size, i.bytes)) = some (some (.int k 0), 1, 8)) (hu : P.underlying T = some (.slice E))
    (base : Nat) (v : Value) (n : Nat) (xs : List Int) (y : Int) (cap : Nat) (ad : Addr) (s x : Operand) (hg : o.guard = none) (ho : o.op = .call { callee := .builtin .append, args := #[s, x], argTypes := #[T, T] })
    (hs : a.eval s = v) (hown : w.ownsRow base E 1 v n (xs.map (Value.int k))) (hx : a.eval x = .slice (some ad) 1 cap) (hc : w.cell? ad = some (.int k y)) (hn : n ≤ 17592186044415) (hb : base ≤ w.heap.size)
    (hK : ∀ v' w', w'.ownsRow base E 1 v' (n + 1) ((xs ++ [y]).map (Value.int k)) → (∀ B W0, B ≤ base → Below B W0 w → Below B W0 w') → K (a.put o.dst v') w') :
    if Region.wanted o (yielded ops a.tmps) = true then Oper.wp P o a w K Q else E' := by
  have hw : Region.wanted o (yielded ops a.tmps) = true := by simp [Region.wanted, hg]
  rw [if_pos hw]
  obtain ⟨i, hi, hz0, hz1, hz2⟩ := info_parts hinf
  refine wp_append_own w s x T ho base E i (.int k 0) 1 8 hu hi hz0 hz1 hz2 rfl (by decide) v n _ hs hown ad 1 cap [.int k y] hx rfl (fun j u hj => ?_) (by simp [Value.oneCell']) (by unfold maxLen; omega) (by omega) hb ?_
  · cases j with
    | zero =>
      simp at hj
      subst hj
      have : ad.add 0 = ad := by cases ad; rfl
      rw [this]
      exact hc
    | succ j => simp at hj
  · intro v' w' hown' hgrow _
    refine hK v' w' (by simpa using hown') (fun B W0 hB hbel => ?_)
    have hlt := hown.lt
    refine hbel.grown hgrow (by have := hbel.size; omega) (fun j hj => ?_)
    have := hlt j hj
    omega

/-- What Out hands back. -/
def RetOut (w : World) (xs : List Int) (z : Int) (e : Ending) (w' : World) : Prop :=
  ∃ v, e = .returned (.tuple #[v, .int .i64 z]) ∧ w'.ownsRow w.heap.size 3 1 v xs.length (xs.map (Value.int .i64)) ∧ Below w.heap.size w w'

set_option maxHeartbeats 2000000 in
set_option maxRecDepth 100000 in
theorem out_any (a a2 : Option Addr) (c c2 : Nat) (xs ys : List Int) (w : World) (h : Ints .i64 w w.heap.size a xs) (h2 : Ints .i64 w w.heap.size a2 ys) (hx4 : xs.length ≤ 4) (hy4 : ys.length ≤ 4) (hc1 : xs.length ≤ c) (hc2 : ys.length ≤ c2) (hc3 : c ≤ 9223372036854775807) (hc4 : c2 ≤ 9223372036854775807) :
    Calls Try.prog 26 #[.slice a xs.length c, .slice a2 ys.length c2] w (RetOut w (outR xs ys) (outE xs ys)) := by
  have hf := Lib.hid (fits_any a a2 c c2 w.heap.size xs ys w h h2 hx4 hy4 hc1 hc2 hc3 hc4)
  have hwf := h.wf
  have hwf2 := h2.wf
  cases hfit : fitsB xs ys with
  | false =>
    have e1 : outE xs ys = 2 := by unfold outE; rw [hfit]; rfl
    have e2 : outR xs ys = [] := by unfold outR; rw [e1]; rfl
    rw [e1, e2]
    rw [hfit] at hf
    clear h h2 hfit e1 e2 hwf hwf2
    go_enter Try.func26, Try.ntmps26
    go_wp2_with (first | (go_at_call 38; refine hf.out.mono ?_; rintro e w' ⟨rfl, q, rfl⟩))
    exact bodyPost_ret (by rw [results_tmp2 rfl]; go_simp) rfl ⟨_, rfl, World.ownsRow_nil _ _ _ _, (by (repeat' (first | exact Below.refl _ _ | refine below_drewN ?_ _ | refine Below.drew ?_ | refine Below.setCell ?_ (by first | omega | (simp <;> omega)) _ | refine Below.alloc ?_ (by first | omega | (simp <;> omega)) _)))⟩
  | true =>
    have hn : 2 ≤ xs.length ∧ 2 ≤ ys.length := by
      unfold fitsB at hfit
      simp at hfit
      omega
    rw [hfit] at hf
    obtain ⟨b2, off2, e2, hlb2, hcell2⟩ := h2.cell (ys.length - 1) (by omega)
    have hY : outL xs ys = xs.take (xs.length - 1) ++ [ys[ys.length - 1]?.getD 0] := rfl
    have hYw : (Lit.int .i64 (ys[ys.length - 1]?.getD 0)).wf = true := by rw [List.getElem?_eq_getElem (show ys.length - 1 < ys.length by omega)]; exact hwf2 _ (List.getElem_mem _)
    have hwfo : ∀ x ∈ outL xs ys, (Lit.int .i64 x).wf = true := by
      intro x hx
      rw [hY] at hx
      rcases List.mem_append.1 hx with h | h
      · exact hwf x (List.mem_of_mem_take h)
      · simp at h; rw [h]; exact hYw
    have hoE : outE xs ys = if goodB (outL xs ys) = true then 0 else 5 := by unfold outE; rw [hfit]; rfl
    have hl1 : (xs.take (xs.length - 1)).length = xs.length - 1 := by simp
    have hlo : (outL xs ys).length = xs.length - 1 + 1 := by rw [hY, List.length_append, hl1]; rfl
    have hcl0 := fun w' (hb : Below w.heap.size w w') => Lib.hid (clone_any a c (xs.take (xs.length - 1)) w' (((intsTake h _).below hb (Nat.le_refl _)).mono hb.size) (by omega))
    rw [hl1] at hcl0
    subst e2
    go_enter Try.func26, Try.ntmps26
    go_upto_region 3 with (first | (go_at_call 38; refine hf.out.mono ?_; rintro e w' ⟨rfl, q, rfl⟩))
    obtain ⟨W, hW⟩ : ∃ W : World, w.drewN q = W := ⟨_, rfl⟩
    have hBW : Below w.heap.size w W := by rw [← hW]; exact below_drewN (Below.refl _ _) _
    have hWs : W.heap.size = w.heap.size := by rw [← hW]; rfl
    have hcy := (hBW.cell (p := ⟨b2, off2 + (ys.length - 1), none⟩) hlb2).trans hcell2
    have hcl := fun w' (hb : Below W.heap.size W w') => hcl0 w' (hBW.trans (hb.mono (by omega)))
    generalize ys[ys.length - 1]?.getD 0 = Y at hY hcy hYw
    rw [hW]
    have ew1 : IntKind.i64.wrap ((xs.length : Int) - 1) = ((xs.length - 1 : Nat) : Int) := by rw [wrapI]; omega
    have ew2 : IntKind.i64.wrap ((ys.length : Int) - 1) = ((ys.length - 1 : Nat) : Int) := by rw [wrapI]; omega
    have ec1 : xs.length - 1 ≤ c := by omega
    have eb2 : ys.length - 1 < ys.length := by omega
    have hlq : b2 < W.heap.size := by omega
    have HOE := Lib.hid hoE
    have HLO := Lib.hid hlo
    have HYY := Lib.hid hY
    have HBW := Lib.hid hBW
    have HL1 := Lib.hid hl1
    clear h h2 hfit hf hcl0 hcell2 hW hoE hlo hY hBW hl1
    go_region_law (first | (go_simp; go_at_call 32; refine (hcl _ (by (repeat' (first | exact Below.refl _ _ | refine below_drewN ?_ _ | refine Below.drew ?_ | refine Below.setCell ?_ (by first | omega | (simp <;> omega)) _ | refine Below.alloc ?_ (by first | omega | (simp <;> omega)) _)))).out.mono ?_; rintro e w1 ⟨v, rfl, hown, hb⟩; rw [HL1.out] at hown; have hs1 := hb.size; (try simp at hs1); have zc := fun hq => hb.cell (p := ⟨W.heap.size, 0, none⟩) hq; (try simp at zc); have hWw : Below W.heap.size W w1 := Below.trans (by (repeat' (first | exact Below.refl _ _ | refine below_drewN ?_ _ | refine Below.drew ?_ | refine Below.setCell ?_ (by first | omega | (simp <;> omega)) _ | refine Below.alloc ?_ (by first | omega | (simp <;> omega)) _))) (hb.mono (by first | omega | (simp <;> omega))); have hcy1 := (hWw.cell (p := ⟨b2, off2 + (ys.length - 1), none⟩) hlq).trans hcy; have HBW1 := Lib.hid hWw; clear hWw; have HB1 := Lib.hid hb; have HO1 := Lib.hid hown; obtain ⟨a1, c1, rfl, _⟩ := own_shape hown; clear hb hown) | (refine step_append1 23 3 .i64 infoInt Try.underlying23 W.heap.size (.slice a1 (xs.length - 1) c1) (xs.length - 1) (xs.take (xs.length - 1)) Y 1 ⟨w1.heap.size, 0, none⟩ (.tmp 16) (.tmp 23) rfl rfl ?_ ?_ ?_ ?_ ?_ ?_ ?_; (focus (simp [Act.eval, Act.put]; done)); (focus (refine (own_mono (base' := W.heap.size) HO1.out ?_).alloc _; (first | omega | (simp <;> omega)))); (focus (simp [Act.eval, Act.put]; done)); (focus exact cell_one_new _ _ _ 0 _ rfl); (focus omega); (focus (first | omega | (simp <;> omega))); (intro v' w2 hown2 hbel2; have HO2 := Lib.hid hown2; have HB2 := Lib.hid (hbel2 W.heap.size W (Nat.le_refl _) (Below.alloc HBW1.out HBW1.out.size _)); obtain ⟨a3, c3, rfl, _⟩ := own_shape hown2; clear hown2 hbel2)) | (refine step_append1 23 3 .i64 infoInt Try.underlying23 W.heap.size (.slice a1 (xs.length - 1) c1) (xs.length - 1) (xs.take (xs.length - 1)) Y 1 ⟨W.heap.size, 0, none⟩ (.tmp 16) (.tmp 23) rfl rfl ?_ ?_ ?_ ?_ ?_ ?_ ?_; (focus (simp [Act.eval, Act.put]; done)); (focus (refine own_mono HO1.out ?_; (first | omega | (simp <;> omega)))); (focus (simp [Act.eval, Act.put]; done)); (focus (first | assumption | exact zc)); (focus omega); (focus (first | omega | (simp <;> omega))); (intro v' w2 hown2 hbel2; have HO2 := Lib.hid hown2; have HB2 := Lib.hid (hbel2 W.heap.size W (Nat.le_refl _) (HBW1.out)); obtain ⟨a3, c3, rfl, _⟩ := own_shape hown2; clear hown2 hbel2)) | fail)
    all_goals
      have hO := HO2.out
      rw [← HYY.out, ← HLO.out] at hO
      obtain ⟨a4, c4, he, hI⟩ := own_ints hO hwfo
      have ha4 : a3 = a4 := by injection he
      have hg := Lib.hid (good_any a3 c3 w2.heap.size (outL xs ys) w2 (by rw [ha4]; exact hI))
      rw [HLO.out] at hg
      have HOW := Lib.hid hO
      have HBF := Lib.hid (HBW.out.trans (HB2.out.mono (by omega)))
      clear hO he hI ha4 HO2 HB2 HB1 HO1 HBW1
      cases hgo : goodB (outL xs ys) with
      | false =>
        have HE : Hid (outE xs ys = 5 ∧ outR xs ys = []) := Lib.hid (by have := HOE.out; rw [hgo] at this; refine ⟨this, ?_⟩; unfold outR; rw [this]; rfl)
        rw [hgo] at hg
        clear hgo
        go_wp2_with (first | (go_at_call 39; refine hg.out.mono ?_; rintro e w' ⟨rfl, rfl⟩))
        refine bodyPost_ret (v := .tuple #[.slice none 0 0, .int .i64 5]) (by rw [results_tmp2 rfl]; go_simp) rfl ?_
        show RetOut w (outR xs ys) (outE xs ys) _ _
        rw [HE.out.1, HE.out.2]
        exact ⟨_, rfl, World.ownsRow_nil _ _ _ _, HBF.out⟩
      | true =>
        have HE : Hid (outE xs ys = 0 ∧ outR xs ys = outL xs ys) := Lib.hid (by have := HOE.out; rw [hgo] at this; refine ⟨this, ?_⟩; unfold outR; rw [this]; rfl)
        rw [hgo] at hg
        clear hgo
        go_wp2_with (first | (go_at_call 39; refine hg.out.mono ?_; rintro e w' ⟨rfl, rfl⟩))
        refine bodyPost_ret (v := .tuple #[.slice a3 (xs.length - 1 + 1) c3, .int .i64 0]) (by rw [results_tmp2 rfl]; go_simp) rfl ?_
        show RetOut w (outR xs ys) (outE xs ys) _ _
        rw [HE.out.1, HE.out.2]
        refine ⟨_, rfl, ?_, HBF.out⟩
        have hO := HOW.out
        rw [hWs] at hO
        rw [← HLO.out]
        exact hO
end Go.Proofs.Ytjjgmdnmhfoacaa
