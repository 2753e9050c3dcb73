/- Walks: shapes that go together; the shape of a product. -/
import Derived.Test.YtddhhfhammmaaaaGreatMAll
import Derived.Deep.RegionLaw
import Derived.Deep.Cut
set_option linter.unusedVariables false
set_option linter.unusedSimpArgs false
namespace Go.Proofs.YtddhhfhammmaaaaGreat
open Go.RowKit Go.Rt

theorem intsTake {k : IntKind} {w : World} {hi : Nat} {a : Option Addr} {xs : List Int} (h : Ints k w hi a xs) (j : Nat) : Ints k w hi a (xs.take j) :=
  ⟨by have := h.len; simp; omega, fun x hx => h.wf x (List.mem_of_mem_take hx), fun i hi' => by
    have hl : i < xs.length ∧ i < j := by simp at hi'; omega
    obtain ⟨b, off, ha, hlt, hc⟩ := h.cell i hl.1
    refine ⟨b, off, ha, hlt, ?_⟩
    rw [hc, List.getElem?_take, if_pos hl.2]⟩

/-- Do shapes go together? -/
def fitsB (xs ys : List Int) : Bool := decide (2 ≤ xs.length) && ((decide (ys.length = 2) || decide (ys.length = xs.length)) && (decide (xs[xs.length - 1]?.getD 0 = ys[ys.length - 2]?.getD 0) && (decide (ys.length ≠ xs.length) || decide (xs.take (xs.length - 2) = ys.take (ys.length - 2)))))
def outL (xs ys : List Int) : List Int := xs.take (xs.length - 1) ++ [ys[ys.length - 1]?.getD 0]
def outE (xs ys : List Int) : Int := if fitsB xs ys = true then (if goodB (outL xs ys) = true then 0 else 5) else 2
def outR (xs ys : List Int) : List Int := if outE xs ys = 0 then outL xs ys else []

set_option maxHeartbeats 1000000 in
set_option maxRecDepth 100000 in
theorem fits_any (a a2 : Option Addr) (c c2 hi : Nat) (xs ys : List Int) (w : World) (h : Ints .i64 w hi a xs) (h2 : Ints .i64 w hi a2 ys) (hx4 : xs.length ≤ 4) (hy4 : ys.length ≤ 4) (hc1 : xs.length ≤ c) (hc2 : ys.length ≤ c2) (hc3 : c ≤ 9223372036854775807) (hc4 : c2 ≤ 9223372036854775807) :
    Calls Tryz.prog 64 #[.slice a xs.length c, .slice a2 ys.length c2] w fun e w' => e = .returned (.bool (fitsB xs ys)) ∧ ∃ q, w' = w.drewN q := by
  have hm := h.len
  have hm2 := h2.len
  by_cases hn2 : xs.length < 2
  · have HE : Hid (fitsB xs ys = false) := Lib.hid (by unfold fitsB; rw [decide_eq_false (show ¬ 2 ≤ xs.length by omega)]; rfl)
    have i1 : (xs.length : Int) < 2 := by omega
    clear h h2 hn2
    go_enter Tryz.func64, Tryz.ntmps64
    go_upto_region 2 with fail
    go_quiet (fail)
    go_wp2
    go_ret
    exact ⟨ret_bool HE.out.symm, _, rfl⟩
  · have i1 : ¬ (xs.length : Int) < 2 := by omega
    by_cases hmm : ys.length = 2 ∨ ys.length = xs.length
    · have i2 : ¬ (ys.length : Int) < 2 := by omega
      obtain ⟨b, off, rfl, hlb, hcell⟩ := h.cell (xs.length - 1) (by omega)
      obtain ⟨b2, off2, rfl, hlb2, hcell2⟩ := h2.cell (ys.length - 2) (by omega)
      have ew1 : IntKind.i64.wrap ((xs.length : Int) - 1) = ((xs.length - 1 : Nat) : Int) := by rw [wrapI]; omega
      have ew2 : IntKind.i64.wrap ((ys.length : Int) - 2) = ((ys.length - 2 : Nat) : Int) := by rw [wrapI]; omega
      have ew3 : IntKind.i64.wrap ((xs.length : Int) - 2) = ((xs.length - 2 : Nat) : Int) := by rw [wrapI]; omega
      have eb1 : xs.length - 1 < xs.length := by omega
      have eb2 : ys.length - 2 < ys.length := by omega
      by_cases heq : xs[xs.length - 1]?.getD 0 = ys[ys.length - 2]?.getD 0
      · have e5 : (ys[ys.length - 2]?.getD 0 != ys[ys.length - 2]?.getD 0) = false := by simp
        rw [heq] at hcell
        have hl1 : (xs.take (xs.length - 2)).length = xs.length - 2 := by simp
        have hl2 : (ys.take (ys.length - 2)).length = ys.length - 2 := by simp
        have hq := fun w' (hb : Below hi w w') => Lib.hid (slicesEqual_any (some ⟨b, off, none⟩) (some ⟨b2, off2, none⟩) c c2 hi (xs.take (xs.length - 2)) (ys.take (ys.length - 2)) w' ((intsTake h _).below hb (Nat.le_refl _)) ((intsTake h2 _).below hb (Nat.le_refl _)))
        rw [hl1, hl2] at hq
        have HF : Hid (fitsB xs ys = (decide (ys.length ≠ xs.length) || decide (xs.take (xs.length - 2) = ys.take (ys.length - 2)))) := Lib.hid (by
          unfold fitsB
          rw [decide_eq_true (show 2 ≤ xs.length by omega), decide_eq_true heq]
          rcases hmm with h1 | h1
          · rw [decide_eq_true h1]; simp
          · rw [decide_eq_true h1]; simp)
        generalize ys[ys.length - 2]?.getD 0 = Y at hcell hcell2 e5
        generalize decide (xs.take (xs.length - 2) = ys.take (ys.length - 2)) = T at hq HF
        have ec1 : xs.length - 2 ≤ c := by omega
        have ec2 : ys.length - 2 ≤ c2 := by omega
        clear h h2 heq hl1 hl2
        by_cases h3 : ys.length = xs.length
        · have HE : Hid (fitsB xs ys = T) := Lib.hid (by rw [HF.out, decide_eq_false (show ¬ ys.length ≠ xs.length by omega), Bool.false_or])
          have e4 : ((ys.length : Int) != (xs.length : Int)) = false := by simp; omega
          by_cases h4 : ys.length = 2
          · have e3 : ((ys.length : Int) != 2) = false := by simp; omega
            clear h3 h4 hmm
            go_enter Tryz.func64, Tryz.ntmps64
            go_upto_region 2 with fail
            go_quiet (fail)
            go_upto_region 4 with fail
            obtain ⟨W1, hW1⟩ : ∃ W1 : World, w.drewN nq = W1 := ⟨_, rfl⟩
            have HBW : Below hi w W1 := by rw [← hW1]; exact below_drewN (Below.refl _ _) _
            rw [hW1]
            go_quiet (first | (go_at_call 89; exact Calls.quiet_of (hq _ (below_drewN HBW _)).out))
            go_wp2
            go_ret
            exact ⟨ret_bool HE.out.symm, _, by rw [← hW1]; first | rfl | exact World.drewN_drewN _ _ _⟩
          · have e3 : ((ys.length : Int) != 2) = true := by simp; omega
            clear h3 h4 hmm
            go_enter Tryz.func64, Tryz.ntmps64
            go_upto_region 2 with fail
            go_quiet (fail)
            go_upto_region 4 with fail
            obtain ⟨W1, hW1⟩ : ∃ W1 : World, w.drewN nq = W1 := ⟨_, rfl⟩
            have HBW : Below hi w W1 := by rw [← hW1]; exact below_drewN (Below.refl _ _) _
            rw [hW1]
            go_quiet (first | (go_at_call 89; exact Calls.quiet_of (hq _ (below_drewN HBW _)).out))
            go_wp2
            go_ret
            exact ⟨ret_bool HE.out.symm, _, by rw [← hW1]; first | rfl | exact World.drewN_drewN _ _ _⟩
        · have HE : Hid (fitsB xs ys = true) := Lib.hid (by rw [HF.out, decide_eq_true (show ys.length ≠ xs.length from h3), Bool.true_or])
          have e4 : ((ys.length : Int) != (xs.length : Int)) = true := by simp; omega
          have h4 : ys.length = 2 := by omega
          have e3 : ((ys.length : Int) != 2) = false := by simp; omega
          clear h3 h4 hmm
          go_enter Tryz.func64, Tryz.ntmps64
          go_upto_region 2 with fail
          go_quiet (fail)
          go_upto_region 4 with fail
          obtain ⟨W1, hW1⟩ : ∃ W1 : World, w.drewN nq = W1 := ⟨_, rfl⟩
          have HBW : Below hi w W1 := by rw [← hW1]; exact below_drewN (Below.refl _ _) _
          rw [hW1]
          go_quiet (fail)
          go_wp2
          go_ret
          exact ⟨ret_bool HE.out.symm, _, by rw [← hW1]; first | rfl | exact World.drewN_drewN _ _ _⟩
      · have HE : Hid (fitsB xs ys = false) := Lib.hid (by unfold fitsB; rw [decide_eq_false heq, Bool.false_and, Bool.and_false, Bool.and_false])
        have e5 : (xs[xs.length - 1]?.getD 0 != ys[ys.length - 2]?.getD 0) = true := by simp; exact heq
        generalize xs[xs.length - 1]?.getD 0 = X at hcell e5
        generalize ys[ys.length - 2]?.getD 0 = Y at hcell2 e5
        clear h h2 heq
        rcases hmm with h1 | h1
        · by_cases h3 : ys.length = xs.length
          · have e3 : ((ys.length : Int) != 2) = false := by simp; omega
            have e4 : ((ys.length : Int) != (xs.length : Int)) = false := by simp; omega
            clear h1 h3
            go_enter Tryz.func64, Tryz.ntmps64
            go_upto_region 2 with fail
            go_quiet (fail)
            go_wp2
            go_ret
            exact ⟨ret_bool HE.out.symm, _, rfl⟩
          · have e3 : ((ys.length : Int) != 2) = false := by simp; omega
            have e4 : ((ys.length : Int) != (xs.length : Int)) = true := by simp; omega
            clear h1 h3
            go_enter Tryz.func64, Tryz.ntmps64
            go_upto_region 2 with fail
            go_quiet (fail)
            go_wp2
            go_ret
            exact ⟨ret_bool HE.out.symm, _, rfl⟩
        · by_cases h3 : ys.length = 2
          · have e3 : ((ys.length : Int) != 2) = false := by simp; omega
            have e4 : ((ys.length : Int) != (xs.length : Int)) = false := by simp; omega
            clear h1 h3
            go_enter Tryz.func64, Tryz.ntmps64
            go_upto_region 2 with fail
            go_quiet (fail)
            go_wp2
            go_ret
            exact ⟨ret_bool HE.out.symm, _, rfl⟩
          · have e3 : ((ys.length : Int) != 2) = true := by simp; omega
            have e4 : ((ys.length : Int) != (xs.length : Int)) = false := by simp; omega
            clear h1 h3
            go_enter Tryz.func64, Tryz.ntmps64
            go_upto_region 2 with fail
            go_quiet (fail)
            go_wp2
            go_ret
            exact ⟨ret_bool HE.out.symm, _, rfl⟩
    · have HE : Hid (fitsB xs ys = false) := Lib.hid (by unfold fitsB; rw [decide_eq_false (show ¬ ys.length = 2 by omega), decide_eq_false (show ¬ ys.length = xs.length by omega), Bool.or_self, Bool.false_and, Bool.and_false])
      have e3 : ((ys.length : Int) != 2) = true := by simp; omega
      have e4 : ((ys.length : Int) != (xs.length : Int)) = true := by simp; omega
      clear h h2
      go_enter Tryz.func64, Tryz.ntmps64
      go_upto_region 2 with fail
      go_quiet (fail)
      go_wp2
      go_ret
      exact ⟨ret_bool HE.out.symm, _, rfl⟩

end Go.Proofs.YtddhhfhammmaaaaGreat
/- Walks: the shape of a product. -/
set_option linter.unusedVariables false
set_option linter.unusedSimpArgs false
namespace Go.Proofs.YtddhhfhammmaaaaGreat
open Go.RowKit Go.Rt

/-- append of one number to a row of one's own, as one step of a region that draws. -/
theorem step_append1 {P : Program} {ops : Array Oper} {o : Oper} {a : Act} {w : World} {K : Act → World → Prop} {Q : Exit → Act → World → Prop} {E' : Prop} (T E : TypeId) (k : IntKind)
    (hinf : (P.info? E).map (fun i => (i.zero, i.size, i.bytes)) = some (some (.int k 0), 1, 8)) (hu : P.underlying T = some (.slice E))
    (base : Nat) (v : Value) (n : Nat) (xs : List Int) (y : Int) (cap : Nat) (ad : Addr) (s x : Operand) (hg : o.guard = none) (ho : o.op = .call { callee := .builtin .append, args := #[s, x], argTypes := #[T, T] })
    (hs : a.eval s = v) (hown : w.ownsRow base E 1 v n (xs.map (Value.int k))) (hx : a.eval x = .slice (some ad) 1 cap) (hc : w.cell? ad = some (.int k y)) (hn : n ≤ 17592186044415) (hb : base ≤ w.heap.size)
    (hK : ∀ v' w', w'.ownsRow base E 1 v' (n + 1) ((xs ++ [y]).map (Value.int k)) → (∀ B W0, B ≤ base → Below B W0 w → Below B W0 w') → K (a.put o.dst v') w') :
    if Region.wanted o (yielded ops a.tmps) = true then Oper.wp P o a w K Q else E' := by
  have hw : Region.wanted o (yielded ops a.tmps) = true := by simp [Region.wanted, hg]
  rw [if_pos hw]
  obtain ⟨i, hi, hz0, hz1, hz2⟩ := info_parts hinf
  refine wp_append_own w s x T ho base E i (.int k 0) 1 8 hu hi hz0 hz1 hz2 rfl (by decide) v n _ hs hown ad 1 cap [.int k y] hx rfl (fun j u hj => ?_) (by simp [Value.oneCell']) (by unfold maxLen; omega) (by omega) hb ?_
  · cases j with
    | zero =>
      simp at hj
      subst hj
      have : ad.add 0 = ad := by cases ad; rfl
      rw [this]
      exact hc
    | succ j => simp at hj
  · intro v' w' hown' hgrow _
    refine hK v' w' (by simpa using hown') (fun B W0 hB hbel => ?_)
    have hlt := hown.lt
    refine hbel.grown hgrow (by have := hbel.size; omega) (fun j hj => ?_)
    have := hlt j hj
    omega

/-- What Out hands back. -/
def RetOut (w : World) (xs : List Int) (z : Int) (e : Ending) (w' : World) : Prop :=
  ∃ v, e = .returned (.tuple #[v, .int .i64 z]) ∧ w'.ownsRow w.heap.size 3 1 v xs.length (xs.map (Value.int .i64)) ∧ Below w.heap.size w w'

set_option maxHeartbeats 2000000 in
set_option maxRecDepth 100000 in
theorem out_any (a a2 : Option Addr) (c c2 : Nat) (xs ys : List Int) (w : World) (h : Ints .i64 w w.heap.size a xs) (h2 : Ints .i64 w w.heap.size a2 ys) (hx4 : xs.length ≤ 4) (hy4 : ys.length ≤ 4) (hc1 : xs.length ≤ c) (hc2 : ys.length ≤ c2) (hc3 : c ≤ 9223372036854775807) (hc4 : c2 ≤ 9223372036854775807) :
    Calls Tryz.prog 36 #[.slice a xs.length c, .slice a2 ys.length c2] w (RetOut w (outR xs ys) (outE xs ys)) := by
  have hf := Lib.hid (fits_any a a2 c c2 w.heap.size xs ys w h h2 hx4 hy4 hc1 hc2 hc3 hc4)
  have hwf := h.wf
  have hwf2 := h2.wf
  cases hfit : fitsB xs ys with
  | false =>
    have e1 : outE xs ys = 2 := by unfold outE; rw [hfit]; rfl
    have e2 : outR xs ys = [] := by unfold outR; rw [e1]; rfl
    rw [e1, e2]
    rw [hfit] at hf
    clear h h2 hfit e1 e2 hwf hwf2
    go_enter Tryz.func36, Tryz.ntmps36
    go_wp2_with (first | (go_at_call 64; refine hf.out.mono ?_; rintro e w' ⟨rfl, q, rfl⟩))
    exact bodyPost_ret (by rw [results_tmp2 rfl]; go_simp) rfl ⟨_, rfl, World.ownsRow_nil _ _ _ _, (by (repeat' (first | exact Below.refl _ _ | refine below_drewN ?_ _ | refine Below.drew ?_ | refine Below.setCell ?_ (by first | omega | (simp <;> omega)) _ | refine Below.alloc ?_ (by first | omega | (simp <;> omega)) _)))⟩
  | true =>
    have hn : 2 ≤ xs.length ∧ 2 ≤ ys.length := by
      unfold fitsB at hfit
      simp at hfit
      omega
    rw [hfit] at hf
    obtain ⟨b2, off2, e2, hlb2, hcell2⟩ := h2.cell (ys.length - 1) (by omega)
    have hY : outL xs ys = xs.take (xs.length - 1) ++ [ys[ys.length - 1]?.getD 0] := rfl
    have hYw : (Lit.int .i64 (ys[ys.length - 1]?.getD 0)).wf = true := by rw [List.getElem?_eq_getElem (show ys.length - 1 < ys.length by omega)]; exact hwf2 _ (List.getElem_mem _)
    have hwfo : ∀ x ∈ outL xs ys, (Lit.int .i64 x).wf = true := by
      intro x hx
      rw [hY] at hx
      rcases List.mem_append.1 hx with h | h
      · exact hwf x (List.mem_of_mem_take h)
      · simp at h; rw [h]; exact hYw
    have hoE : outE xs ys = if goodB (outL xs ys) = true then 0 else 5 := by unfold outE; rw [hfit]; rfl
    have hl1 : (xs.take (xs.length - 1)).length = xs.length - 1 := by simp
    have hlo : (outL xs ys).length = xs.length - 1 + 1 := by rw [hY, List.length_append, hl1]; rfl
    have hcl0 := fun w' (hb : Below w.heap.size w w') => Lib.hid (clone_any a c (xs.take (xs.length - 1)) w' (((intsTake h _).below hb (Nat.le_refl _)).mono hb.size) (by omega))
    rw [hl1] at hcl0
    subst e2
    go_enter Tryz.func36, Tryz.ntmps36
    go_upto_region 3 with (first | (go_at_call 64; refine hf.out.mono ?_; rintro e w' ⟨rfl, q, rfl⟩))
    obtain ⟨W, hW⟩ : ∃ W : World, w.drewN q = W := ⟨_, rfl⟩
    have hBW : Below w.heap.size w W := by rw [← hW]; exact below_drewN (Below.refl _ _) _
    have hWs : W.heap.size = w.heap.size := by rw [← hW]; rfl
    have hcy := (hBW.cell (p := ⟨b2, off2 + (ys.length - 1), none⟩) hlb2).trans hcell2
    have hcl := fun w' (hb : Below W.heap.size W w') => hcl0 w' (hBW.trans (hb.mono (by omega)))
    generalize ys[ys.length - 1]?.getD 0 = Y at hY hcy hYw
    rw [hW]
    have ew1 : IntKind.i64.wrap ((xs.length : Int) - 1) = ((xs.length - 1 : Nat) : Int) := by rw [wrapI]; omega
    have ew2 : IntKind.i64.wrap ((ys.length : Int) - 1) = ((ys.length - 1 : Nat) : Int) := by rw [wrapI]; omega
    have ec1 : xs.length - 1 ≤ c := by omega
    have eb2 : ys.length - 1 < ys.length := by omega
    have hlq : b2 < W.heap.size := by omega
    have HOE := Lib.hid hoE
    have HLO := Lib.hid hlo
    have HYY := Lib.hid hY
    have HBW := Lib.hid hBW
    have HL1 := Lib.hid hl1
    clear h h2 hfit hf hcl0 hcell2 hW hoE hlo hY hBW hl1
    go_region_law (first | (go_simp; go_at_call 43; refine (hcl _ (by (repeat' (first | exact Below.refl _ _ | refine below_drewN ?_ _ | refine Below.drew ?_ | refine Below.setCell ?_ (by first | omega | (simp <;> omega)) _ | refine Below.alloc ?_ (by first | omega | (simp <;> omega)) _)))).out.mono ?_; rintro e w1 ⟨v, rfl, hown, hb⟩; rw [HL1.out] at hown; have hs1 := hb.size; (try simp at hs1); have zc := fun hq => hb.cell (p := ⟨W.heap.size, 0, none⟩) hq; (try simp at zc); have hWw : Below W.heap.size W w1 := Below.trans (by (repeat' (first | exact Below.refl _ _ | refine below_drewN ?_ _ | refine Below.drew ?_ | refine Below.setCell ?_ (by first | omega | (simp <;> omega)) _ | refine Below.alloc ?_ (by first | omega | (simp <;> omega)) _))) (hb.mono (by first | omega | (simp <;> omega))); have hcy1 := (hWw.cell (p := ⟨b2, off2 + (ys.length - 1), none⟩) hlq).trans hcy; have HBW1 := Lib.hid hWw; clear hWw; have HB1 := Lib.hid hb; have HO1 := Lib.hid hown; obtain ⟨a1, c1, rfl, _⟩ := own_shape hown; clear hb hown) | (refine step_append1 23 3 .i64 infoInt Tryz.underlying23 W.heap.size (.slice a1 (xs.length - 1) c1) (xs.length - 1) (xs.take (xs.length - 1)) Y 1 ⟨w1.heap.size, 0, none⟩ (.tmp 16) (.tmp 23) rfl rfl ?_ ?_ ?_ ?_ ?_ ?_ ?_; (focus (simp [Act.eval, Act.put]; done)); (focus (refine (own_mono (base' := W.heap.size) HO1.out ?_).alloc _; (first | omega | (simp <;> omega)))); (focus (simp [Act.eval, Act.put]; done)); (focus exact cell_one_new _ _ _ 0 _ rfl); (focus omega); (focus (first | omega | (simp <;> omega))); (intro v' w2 hown2 hbel2; have HO2 := Lib.hid hown2; have HB2 := Lib.hid (hbel2 W.heap.size W (Nat.le_refl _) (Below.alloc HBW1.out HBW1.out.size _)); obtain ⟨a3, c3, rfl, _⟩ := own_shape hown2; clear hown2 hbel2)) | (refine step_append1 23 3 .i64 infoInt Tryz.underlying23 W.heap.size (.slice a1 (xs.length - 1) c1) (xs.length - 1) (xs.take (xs.length - 1)) Y 1 ⟨W.heap.size, 0, none⟩ (.tmp 16) (.tmp 23) rfl rfl ?_ ?_ ?_ ?_ ?_ ?_ ?_; (focus (simp [Act.eval, Act.put]; done)); (focus (refine own_mono HO1.out ?_; (first | omega | (simp <;> omega)))); (focus (simp [Act.eval, Act.put]; done)); (focus (first | assumption | exact zc)); (focus omega); (focus (first | omega | (simp <;> omega))); (intro v' w2 hown2 hbel2; have HO2 := Lib.hid hown2; have HB2 := Lib.hid (hbel2 W.heap.size W (Nat.le_refl _) (HBW1.out)); obtain ⟨a3, c3, rfl, _⟩ := own_shape hown2; clear hown2 hbel2)) | fail)
    all_goals
      have hO := HO2.out
      rw [← HYY.out, ← HLO.out] at hO
      obtain ⟨a4, c4, he, hI⟩ := own_ints hO hwfo
      have ha4 : a3 = a4 := by injection he
      have hg := Lib.hid (good_any a3 c3 w2.heap.size (outL xs ys) w2 (by rw [ha4]; exact hI))
      rw [HLO.out] at hg
      have HOW := Lib.hid hO
      have HBF := Lib.hid (HBW.out.trans (HB2.out.mono (by omega)))
      clear hO he hI ha4 HO2 HB2 HB1 HO1 HBW1
      cases hgo : goodB (outL xs ys) with
      | false =>
        have HE : Hid (outE xs ys = 5 ∧ outR xs ys = []) := Lib.hid (by have := HOE.out; rw [hgo] at this; refine ⟨this, ?_⟩; unfold outR; rw [this]; rfl)
        rw [hgo] at hg
        clear hgo
        go_wp2_with (first | (go_at_call 65; refine hg.out.mono ?_; rintro e w' ⟨rfl, rfl⟩))
        refine bodyPost_ret (v := .tuple #[.slice none 0 0, .int .i64 5]) (by rw [results_tmp2 rfl]; go_simp) rfl ?_
        show RetOut w (outR xs ys) (outE xs ys) _ _
        rw [HE.out.1, HE.out.2]
        exact ⟨_, rfl, World.ownsRow_nil _ _ _ _, HBF.out⟩
      | true =>
        have HE : Hid (outE xs ys = 0 ∧ outR xs ys = outL xs ys) := Lib.hid (by have := HOE.out; rw [hgo] at this; refine ⟨this, ?_⟩; unfold outR; rw [this]; rfl)
        rw [hgo] at hg
        clear hgo
        go_wp2_with (first | (go_at_call 65; refine hg.out.mono ?_; rintro e w' ⟨rfl, rfl⟩))
        refine bodyPost_ret (v := .tuple #[.slice a3 (xs.length - 1 + 1) c3, .int .i64 0]) (by rw [results_tmp2 rfl]; go_simp) rfl ?_
        show RetOut w (outR xs ys) (outE xs ys) _ _
        rw [HE.out.1, HE.out.2]
        refine ⟨_, rfl, ?_, HBF.out⟩
        have hO := HOW.out
        rw [hWs] at hO
        rw [← HLO.out]
        exact hO
end Go.Proofs.YtddhhfhammmaaaaGreat
