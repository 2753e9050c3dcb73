/- Walks: the reference's views: places, copies, once, laid. -/
import Derived.Test.YtnafbgkfhojamaaView3
import Derived.Test.YtnafbgkfhojamaaVWords
import Derived.Test.YtnafbgkfhojamaaVOrd
import Derived.Test.YtnafbgkfhojamaaPartsL
import Derived.Deep.AppendLies
set_option linter.unusedVariables false
set_option linter.unusedSimpArgs false
namespace Go.Proofs.Ytnafbgkfhojamaa
open Go.RowKit Go.Rt
theorem lst7 {α : Type} {l : List α} (h : l.length = 7) : ∃ x0 x1 x2 x3 x4 x5 x6, l = [x0, x1, x2, x3, x4, x5, x6] := by
  match l, h with
  | [x0, x1, x2, x3, x4, x5, x6], _ => exact ⟨x0, x1, x2, x3, x4, x5, x6, rfl⟩
theorem lst14 {α : Type} {l : List α} (h : l.length = 14) : ∃ x0 x1 x2 x3 x4 x5 x6 x7 x8 x9 x10 x11 x12 x13, l = [x0, x1, x2, x3, x4, x5, x6, x7, x8, x9, x10, x11, x12, x13] := by
  match l, h with
  | [x0, x1, x2, x3, x4, x5, x6, x7, x8, x9, x10, x11, x12, x13], _ => exact ⟨x0, x1, x2, x3, x4, x5, x6, x7, x8, x9, x10, x11, x12, x13, rfl⟩
theorem lst15 {α : Type} {l : List α} (h : l.length = 15) : ∃ x0 x1 x2 x3 x4 x5 x6 x7 x8 x9 x10 x11 x12 x13 x14, l = [x0, x1, x2, x3, x4, x5, x6, x7, x8, x9, x10, x11, x12, x13, x14] := by
  match l, h with
  | [x0, x1, x2, x3, x4, x5, x6, x7, x8, x9, x10, x11, x12, x13, x14], _ => exact ⟨x0, x1, x2, x3, x4, x5, x6, x7, x8, x9, x10, x11, x12, x13, x14, rfl⟩

/-- append of one number to a row of one's own, as one step of a drawn region. -/
theorem stepApp1 {ops : Array Oper} {o : Oper} {a : Act} {w : World} {K : Act → World → Prop} {Q : Exit → Act → World → Prop} {E' : Prop} (T E : TypeId)
    (hinf : (Try.prog.info? E).map (fun i => (i.zero, i.size, i.bytes)) = some (some (.int .i64 0), 1, 8)) (hu : Try.prog.underlying T = some (.slice E))
    (base : Nat) (v : Value) (n : Nat) (xs : List Int) (y : Int) (cap : Nat) (ad : Addr) (s x : Operand) (hg : o.guard = none) (ho : o.op = .call { callee := .builtin .append, args := #[s, x], argTypes := #[T, T] })
    (hs : a.eval s = v) (hown : w.ownsRow base E 1 v n (xs.map (Value.int .i64))) (hx : a.eval x = .slice (some ad) 1 cap) (hc : w.cell? ad = some (.int .i64 y)) (hn : n ≤ 1000000) (hb : base ≤ w.heap.size)
    (hK : ∀ g cap' w', w'.ownsRow base E 1 (.slice (some ⟨g, 0, none⟩) (n + 1) cap') (n + 1) ((xs ++ [y]).map (Value.int .i64)) → w.grownBy w' v.ownBlock → (v.ownBlock = some g ∨ g = w.heap.size) → K (a.put o.dst (.slice (some ⟨g, 0, none⟩) (n + 1) cap')) w') :
    if Region.wanted o (yielded ops a.tmps) = true then Oper.wp Try.prog o a w K Q else E' := by
  obtain ⟨i, hi, hz0, hz1, hz2⟩ := info_parts hinf
  refine step_append_lies w hg s x T ho base E i (.int .i64 0) 1 8 hu hi hz0 hz1 hz2 rfl (by decide) v n _ hs hown ad 1 cap [.int .i64 y] hx rfl (fun j u hj => ?_) (by simp [Value.oneCell']) (by decide) (by unfold maxLen; omega) (by omega) hb _ rfl ?_
  · cases j with
    | zero =>
      simp at hj
      subst hj
      have : ad.add 0 = ad := by cases ad; rfl
      rw [this]
      exact hc
    | succ j => simp at hj
  · intro g cap' w' h1 h2 h3 _
    exact hK g cap' w' (by rw [List.map_append]; exact h1) h2 h3
theorem ints_row {W : World} {base : Nat} {e : TypeId} {a : Option Addr} {n c : Nat} {xs : List Int} (h : W.ownsRow base e 1 (.slice a n c) n (xs.map (Value.int .i64))) (hl : xs.length = n) (hwf : ∀ x ∈ xs, (Lit.int .i64 x).wf = true) : Ints .i64 W W.heap.size a xs := by
  subst hl
  obtain ⟨a2, c2, he, hi⟩ := own_ints h hwf
  simp only [Value.slice.injEq] at he
  rw [he.1]
  exact hi
theorem results_cV {fn : Func} {p : Tmp} {ty : TypeId} (h : fn.results = #[.cell p ty]) (tmps : Array Value) (P : Program) (w : World) :
    (results fn tmps).run P w = ((asAddr (tmps.getD p undef)).run P w).andThen fun a w₁ => (loadVar ty a).run P w₁ := by
  simp only [results, h]
  simp [Sem.run_bind, Result.andThen]
theorem appendI {w : World} {ops : Array Oper} {rest : List Oper} {o : Oper} {a : Act} {Q : Exit → Act → World → Prop}
    (base : Nat) (v : Value) (n : Nat) (xs : List Int) (y : Int) (cap : Nat) (s x : Operand) (hg : o.guard = none) (ho : o.op = .call { callee := .builtin .append, args := #[s, x], argTypes := #[23, 23] })
    (hs : a.eval s = v) (hown : w.ownsRow base 3 1 v n (xs.map (Value.int .i64))) (hx : a.eval x = .slice (some ⟨w.heap.size, 0, none⟩) 1 cap) (hn : n ≤ 1000000) (hb : base ≤ w.heap.size)
    (hK : ∀ v' w', w'.ownsRow base 3 1 v' (n + 1) ((xs ++ [y]).map (Value.int .i64)) → (∀ B W0, B ≤ base → Below B W0 w → Below B W0 w') → w.grownBy w' v.ownBlock → (v'.ownBlock = v.ownBlock ∨ v'.ownBlock = some (w.heap.size + 1)) →
      wpList Try.prog ops Q rest (a.put o.dst v') w') : wpList Try.prog ops Q (o :: rest) a (w.alloc (.cells #[.int .i64 y] 3)) := by
  obtain ⟨i, hi, hz0, hz1, hz2⟩ := info_parts infoInt
  refine wpList_append_own_at _ hg s x _ ho base 3 i (.int .i64 0) 1 8 Try.underlying23 hi hz0 hz1 hz2 rfl (by decide) v n _ hs (hown.alloc _) ⟨w.heap.size, 0, none⟩ 1 cap [.int .i64 y] hx rfl (cell_one_new _ _ _)
    (by simp [Value.oneCell']) (by unfold maxLen; omega) (by omega) (by simp; omega) ?_
  intro v' w' hown' hgrow _ hob
  refine hK v' w' (by simpa using hown') (fun B W0 hB hbel => ?_) (grown_trans (World.grownBy_alloc w _ _) hgrow) (by simpa using hob)
  have hlt := hown.lt
  refine (hbel.alloc (Nat.le_trans hB hb) _).grown hgrow (by simp; omega) (fun j hj => ?_)
  have := hlt j hj
  omega

set_option maxRecDepth 100000 in
set_option maxHeartbeats 1000000 in
theorem rplace_any (a b ai : Option Addr) (c d ci : Nat) (sh st : List Int) (off N : Int) (k : Nat) (w : World) (h2 : Ints .i64 w w.heap.size b st) (h3 : Ints .i64 w w.heap.size ai (standsI sh (k : Int))) (hv : viewB sh st off N = true) :
    Calls Try.prog 47 #[.agg #[.slice a sh.length c, .slice b st.length d, .int .i64 off], .slice ai sh.length ci] w fun e w' => e = .returned (.int .i64 (atV sh st off k)) ∧ Below w.heap.size w w' := by
  have hv0 := viewB_iff.1 hv
  have h4 := (goodB_iff.1 hv0.1).1
  have HG := Lib.hid hv0.1
  have HL2 := Lib.hid hv0.2.1
  have HV := Lib.hid hv
  have hwN := hv0.2.2.2.1
  have hoff := hv0.2.2.1
  have HSL := Lib.hid (standsI_length sh (k : Int))
  have hB1 : Below w.heap.size w (w.alloc (.cells #[.slice a sh.length c, .slice b st.length d, .int .i64 off] 25)) := (Below.refl _ _).alloc (Nat.le_refl _) _
  have HB2 := Lib.hid (h2.below hB1 (Nat.le_refl _))
  have HI2 := Lib.hid (h3.below hB1 (Nat.le_refl _))
  clear hv0 hv h2 h3
  go_enter Try.func47, Try.ntmps47
  have F1 := Lib.hid ((Fr.start (w := w) (I := []) (by simp)).box1 (b := w.heap.size) rfl [.slice a sh.length c, .slice b st.length d, .int .i64 off] 25)
  simp only [List.nil_append] at F1
  go_upto_region 1 with fail
  have HB := Lib.hid hB1
  obtain ⟨W1, hW1⟩ : ∃ W1, (w.alloc (.cells #[.slice a sh.length c, .slice b st.length d, .int .i64 off] 25)) = W1 := ⟨_, rfl⟩
  rw [hW1] at F1 HB2 HI2 HB ⊢
  clear hW1 hB1
  have z0 := F1.out.c 0 0 rfl rfl
  have z1 := F1.out.c 0 1 rfl rfl
  have z2 := F1.out.c 0 2 rfl rfl
  go_wp2
  go_loopw [5, 6] (fun s i wr => ∃ j : Nat, j ≤ sh.length ∧ i = .int .i64 j ∧ s = .int .i64 (off + dotK sh st k j) ∧ ∃ q, wr = W1.drewN q) (fun _ i _ => sh.length - (intOf i).toNat)
  case atStart => exact ⟨0, Nat.zero_le _, rfl, by simp [dotK, dotI], 0, rfl⟩
  case round =>
    obtain ⟨j, hj, rfl, rfl, q, rfl⟩ := hrel
    by_cases hlt : j < sh.length
    · have hlt1 : j < (standsI sh (k : Int)).length := by have := HSL.out; omega
      have hlt2 : j < st.length := by have := HL2.out; omega
      obtain ⟨_, _, hcA⟩ := HI2.out
      obtain ⟨_, _, hcB⟩ := HB2.out
      obtain ⟨ba, oa, rfl, hla, hca⟩ := hcA j hlt1
      obtain ⟨bs, os, rfl, hlb, hcb⟩ := hcB j hlt2
      rw [List.getElem?_eq_getElem hlt1] at hca
      rw [List.getElem?_eq_getElem hlt2] at hcb
      simp only [Option.getD_some] at hca hcb
      have hb1 := dotK_bound HV.out k j
      have hb2 := dotK_bound HV.out k (j + 1)
      have HD := Lib.hid (dotK_succ HL2.out k j hlt1 hlt2)
      rw [HD.out] at hb2
      have hm1 := stands_mem (n := (k : Int)) (goodB_dims HG.out) _ (List.getElem_mem hlt1)
      have hm2 := (viewB_iff.1 HV.out).2.2.2.2.2.1 _ (List.getElem_mem hlt2)
      obtain ⟨x, hx⟩ : ∃ x, (standsI sh (k : Int))[j] = x := ⟨_, rfl⟩
      obtain ⟨y, hy⟩ : ∃ y, st[j] = y := ⟨_, rfl⟩
      obtain ⟨T, hT⟩ : ∃ T, dotK sh st k j = T := ⟨_, rfl⟩
      rw [hx] at hca HD hm1 hb2
      rw [hy] at hcb HD hm2 hb2
      rw [hT] at HD hb1 hb2 ⊢
      have hp1 : 0 ≤ x * y := Int.mul_nonneg hm1.1 hm2.1
      have hp2 : x * y ≤ 4096 * 65536 := Int.mul_le_mul (by omega) hm2.2 hm2.1 (by omega)
      have hwr1 : IntKind.i64.wrap (x * y) = x * y := IntWalk.i64_in _ (by omega)
      have hwr2 : IntKind.i64.wrap (off + T + x * y) = off + T + x * y := IntWalk.i64_in _ (by omega)
      have HX := Lib.hid (show off + (T + x * y) = off + T + x * y by omega)
      clear hx hy hT hcA hcB hb1 hb2 hm1 hm2 hp1 hp2
      go_wp2
      go_quiet (fail)
      clear hwr1 hwr2
      go_wp2
      go_roundw
      case rel => exact ⟨j + 1, by omega, by go_num, by rw [HD.out, HX.out], _, by first | rfl | exact World.drewN_drewN _ _ _⟩
      case measure => simp [intOf]; omega
    · obtain rfl : j = sh.length := by omega
      have HA := Lib.hid (dotK_all HL2.out off k)
      go_wp2
      go_ret
      exact ⟨ret_int HA.out, below_drewN HB.out _⟩

set_option maxRecDepth 100000 in
set_option maxHeartbeats 4000000 in
theorem ronce_any (a b : Option Addr) (c d : Nat) (sh st : List Int) (off N : Int) (w : World) (h : Ints .i64 w w.heap.size a sh) (h2 : Ints .i64 w w.heap.size b st) (hv : viewB sh st off N = true) :
    Calls Try.prog 13 #[.agg #[.slice a sh.length c, .slice b st.length d, .int .i64 off]] w fun e w' => e = .returned (.bool (onceV sh st off)) ∧ Below w.heap.size w w' := by
  have HA := Lib.hid h
  have HB := Lib.hid h2
  clear h h2
  have hv0 := viewB_iff.1 hv
  have hP := goodB_prod hv0.1
  have h4 := (goodB_iff.1 hv0.1).1
  have hwN := hv0.2.2.2.1
  have HG := Lib.hid hv0.1
  have HV := Lib.hid hv
  have hcg := countE_good hv0.1
  obtain ⟨M, hM⟩ : ∃ M : Nat, prodI sh = M := ⟨(prodI sh).toNat, by omega⟩
  rw [hM] at hcg
  have hct := fun W (h : Ints .i64 W W.heap.size a sh) => rcount_any a c _ sh W h (goodB_dims HG.out)
  rw [hcg] at hct
  have HM := Lib.hid hM
  have hM2 : M ≤ 65536 := by omega
  obtain ⟨PL, hPL⟩ : ∃ x, placesV sh st off = x := ⟨_, rfl⟩
  have hPLl : PL.length = M := by rw [← hPL, placesV_len]; have := HM.out; omega
  have hPLg := fun k (hk : k < M) => placesV_get sh st off (k := k) (by have := HM.out; omega)
  rw [hPL] at hPLg
  have HPL := Lib.hid hPL
  have HPLl := Lib.hid hPLl
  have HPLg := Lib.hid hPLg
  have HCT := Lib.hid hct
  clear hv0 hP hcg hM hPL hPLl hPLg hct
  have hO : onceV sh st off = decide PL.Nodup := by unfold onceV; rw [HPL.out]
  have HO := Lib.hid hO
  clear hO
  go_enter Try.func13, Try.ntmps13
  have F1 := Lib.hid ((Fr.start (w := w) (I := [(.i64, a, sh), (.i64, b, st)]) (by intro z hz; simp at hz; rcases hz with rfl | rfl; exact HA.out; exact HB.out)).box1 (b := w.heap.size) rfl [.slice a sh.length c, .slice b st.length d, .int .i64 off] 25)
  simp only [List.nil_append] at F1
  go_upto_region 1 with fail
  obtain ⟨W1, hW1⟩ : ∃ W1, (w.alloc (.cells #[.slice a sh.length c, .slice b st.length d, .int .i64 off] 25)) = W1 := ⟨_, rfl⟩
  rw [hW1] at F1 ⊢
  clear hW1
  go_wp2
  go_loopw [3, 4] (fun s i wr => ∃ k : Nat, k ≤ M ∧ i = .int .i64 k ∧ ∃ al cl, s = .slice al k cl ∧ Hid (PL.take k).Nodup ∧ Hid (Fr w.heap.size w wr [(w.heap.size, [.slice a sh.length c, .slice b st.length d, .int .i64 off])] [(.i64, a, sh), (.i64, b, st)] [⟨3, .slice al k cl, k, (PL.take k).map (Value.int .i64)⟩] [])) (fun _ i _ => M - (intOf i).toNat)
  case atStart => exact ⟨0, Nat.zero_le _, rfl, none, 0, rfl, Lib.hid (by simp), Lib.hid (by have := F1.out.addNil 3; simpa using this)⟩
  case round =>
    clear F1
    obtain ⟨k, hk, rfl, al, cl, rfl, HND, FK⟩ := hrel
    obtain ⟨wk, rfl⟩ : ∃ wk : World, wk = wr := ⟨_, rfl⟩
    have k0_0 := FK.out.c 0 0 rfl rfl
    have k0_1 := FK.out.c 0 1 rfl rfl
    have k0_2 := FK.out.c 0 2 rfl rfl
    by_cases hlt : k < M
    · skip
      have hat := atV_bound (n := (k : Int)) HV.out
      have hpg := HPLg.out k hlt
      obtain ⟨z, hz⟩ : ∃ z : Nat, atV sh st off k = z := ⟨(atV sh st off k).toNat, by omega⟩
      rw [hz] at hat hpg
      have hkl : k < PL.length := by rw [HPLl.out]; exact hlt
      have hpk : PL[k] = (z : Int) := by rw [List.getElem?_eq_getElem hkl] at hpg; injection hpg
      have htk := take_snoc PL k hkl
      rw [hpk] at htk
      have HTK := Lib.hid htk
      have HZ := Lib.hid hz
      have HPK := Lib.hid hpk
      clear hpg hz hpk htk
      skip
      go_upto_region 5 with (go_at_call 27; refine (HCT.out _ (FK.out.lw 0 rfl)).mono ?_; rintro e w' ⟨rfl, rfl⟩)
      refine wp_region_parts2 (w := wk) 7 0 none [] [(fun u _ => u = .agg #[.slice a sh.length c, .slice b st.length d, .int .i64 off]), (fun u _ => u = .pointer (some ⟨w.heap.size, 0, none⟩)), (fun u _ => u = .slice a sh.length c), (fun u _ => u = .int .i64 (k : Int)), ((IsRow wk.heap.size 3 sh.length ((standsI sh (k : Int)).map (Value.int .i64)))), (fun u _ => u = .int .i64 (z : Int)), (fun u _ => u = .int .i64 (z : Int))] [some 13, some 14, some 15, some 16, some 17, some 18, some 5] #[true, true, true, true, true, true, true] #[true, true, true, true, true, true, true] (by kernel_rfl) rfl (by kernel_rfl) (by kernel_rfl) rfl (by kernel_rfl) (by kernel_rfl) (.cons (carries_eq _) (.cons (carries_eq _) (.cons (carries_eq _) (.cons (carries_eq _) (.cons (isRow_carries _ _ _ _) (.cons (carries_eq _) (.cons (carries_eq _) .nil))))))) (fun vs b hvl hvb => ?_)
      obtain ⟨x0, x1, x2, x3, x4, x5, x6, rfl⟩ : ∃ x0 x1 x2 x3 x4 x5 x6, vs = [x0, x1, x2, x3, x4, x5, x6] := lst7 hvl
      clear hvl
      simp only [putAll, Act.put, List.setIfInBounds_toArray, List.set_cons_zero, List.set_cons_succ] at hvb
      subst hvb
      refine ⟨(.snoc (.snoc (.snoc (.snoc (.snoc (.snoc (.snoc .zero (PartOb.intro (d := (some 13)) (r := fun u _ => u = .agg #[.slice a sh.length c, .slice b st.length d, .int .i64 off]) rfl rfl rfl rfl ?po5x0)) (PartOb.intro (d := (some 14)) (r := fun u _ => u = .pointer (some ⟨w.heap.size, 0, none⟩)) rfl rfl rfl rfl ?po5x1)) (PartOb.intro (d := (some 15)) (r := fun u _ => u = .slice a sh.length c) rfl rfl rfl rfl ?po5x2)) (PartOb.intro (d := (some 16)) (r := fun u _ => u = .int .i64 (k : Int)) rfl rfl rfl rfl ?po5x3)) (PartOb.intro (d := (some 17)) (r := (IsRow wk.heap.size 3 sh.length ((standsI sh (k : Int)).map (Value.int .i64)))) rfl rfl rfl rfl ?po5x4)) (PartOb.intro (d := (some 18)) (r := fun u _ => u = .int .i64 (z : Int)) rfl rfl rfl rfl ?po5x5)) (PartOb.intro (d := (some 5)) (r := fun u _ => u = .int .i64 (z : Int)) rfl rfl rfl rfl ?po5x6)), ?pend5, ?pfl5⟩
      case po5x0 =>
        intro w1 hb1 hd KK hK
        clear hd
        have hF := FK.out.next hb1
        have k0 := hF.c 0 0 rfl rfl
        have k1 := hF.c 0 1 rfl rfl
        have k2 := hF.c 0 2 rfl rfl
        simp only [Act.put, List.setIfInBounds_toArray, List.set_cons_zero, List.set_cons_succ] at hK
        go_simp
        first | exact hK.out _ _ (Below.refl _ _) rfl | (have hk := hK.out _ _ (Below.refl _ _) rfl; revert hk; go_simp)
      case po5x1 =>
        intro w1 hb1 hd KK hK
        clear hd
        simp only [Act.put, List.setIfInBounds_toArray, List.set_cons_zero, List.set_cons_succ] at hK
        go_simp
        first | exact hK.out _ _ (Below.refl _ _) rfl | (have hk := hK.out _ _ (Below.refl _ _) rfl; revert hk; go_simp)
      case po5x2 =>
        intro w1 hb1 hd KK hK
        have d1 : x1 = .pointer (some ⟨w.heap.size, 0, none⟩) := hd 1 (by kernel_rfl)
        clear hd
        subst d1
        have hF := FK.out.next hb1
        have k0 := hF.c 0 0 rfl rfl
        have k1 := hF.c 0 1 rfl rfl
        have k2 := hF.c 0 2 rfl rfl
        simp only [Act.put, List.setIfInBounds_toArray, List.set_cons_zero, List.set_cons_succ] at hK
        go_simp
        first | exact hK.out _ _ (Below.refl _ _) rfl | (have hk := hK.out _ _ (Below.refl _ _) rfl; revert hk; go_simp)
      case po5x3 =>
        intro w1 hb1 hd KK hK
        clear hd
        simp only [Act.put, List.setIfInBounds_toArray, List.set_cons_zero, List.set_cons_succ] at hK
        go_simp
        first | exact hK.out _ _ (Below.refl _ _) rfl | (have hk := hK.out _ _ (Below.refl _ _) rfl; revert hk; go_simp)
      case po5x4 =>
        intro w1 hb1 hd KK hK
        have d2 : x2 = .slice a sh.length c := hd 2 (by kernel_rfl)
        have d3 : x3 = .int .i64 (k : Int) := hd 3 (by kernel_rfl)
        clear hd
        subst d2
        subst d3
        simp only [Act.put, List.setIfInBounds_toArray, List.set_cons_zero, List.set_cons_succ] at hK
        go_simp
        go_at_call 30
        refine (rat_any a c sh (k : Int) w1 ((FK.out.next hb1).lw 0 rfl) HG.out (by omega) (by have := HM.out; omega)).mono ?_
        rintro e w2 ⟨v, rfl, hown, hb⟩
        obtain ⟨a2, c2, rfl, _⟩ := own_shape hown
        rw [standsI_length] at hown ⊢
        (try go_wp2_with fail)
        first | exact hK.out _ _ hb ⟨a2, c2, rfl, own_mono hown hb1.size⟩ | (have hk := hK.out _ _ hb ⟨a2, c2, rfl, own_mono hown hb1.size⟩; revert hk; go_simp)
      case po5x5 =>
        intro w1 hb1 hd KK hK
        have d0 : x0 = .agg #[.slice a sh.length c, .slice b st.length d, .int .i64 off] := hd 0 (by kernel_rfl)
        have d4 : (IsRow wk.heap.size 3 sh.length ((standsI sh (k : Int)).map (Value.int .i64))) x4 w1 := hd 4 (by kernel_rfl)
        clear hd
        subst d0
        obtain ⟨a4, c4, rfl, hO4⟩ := d4
        have hIS := ints_row hO4 (standsI_length sh (k : Int)) (wf_stands (n := (k : Int)) (goodB_dims HG.out))
        simp only [Act.put, List.setIfInBounds_toArray, List.set_cons_zero, List.set_cons_succ] at hK
        go_simp
        go_at_call 47
        refine (rplace_any a b a4 c d c4 sh st off N k w1 ((FK.out.next hb1).lw 1 rfl) hIS HV.out).mono ?_
        rintro e w2 ⟨rfl, hb⟩
        rw [HZ.out]
        (try go_wp2_with fail)
        first | exact hK.out _ _ hb rfl | (have hk := hK.out _ _ hb rfl; revert hk; go_simp)
      case po5x6 =>
        intro w1 hb1 hd KK hK
        have d0 : x0 = .agg #[.slice a sh.length c, .slice b st.length d, .int .i64 off] := hd 0 (by kernel_rfl)
        have d1 : x1 = .pointer (some ⟨w.heap.size, 0, none⟩) := hd 1 (by kernel_rfl)
        have d2 : x2 = .slice a sh.length c := hd 2 (by kernel_rfl)
        have d3 : x3 = .int .i64 (k : Int) := hd 3 (by kernel_rfl)
        have d4 : (IsRow wk.heap.size 3 sh.length ((standsI sh (k : Int)).map (Value.int .i64))) x4 w1 := hd 4 (by kernel_rfl)
        have d5 : x5 = .int .i64 (z : Int) := hd 5 (by kernel_rfl)
        clear hd
        subst d0
        subst d1
        subst d2
        subst d3
        obtain ⟨a4, c4, rfl, hO4⟩ := d4
        subst d5
        simp only [Act.put, List.setIfInBounds_toArray, List.set_cons_zero, List.set_cons_succ] at hK
        go_simp
        first | exact hK.out _ _ (Below.refl _ _) rfl | (have hk := hK.out _ _ (Below.refl _ _) rfl; revert hk; go_simp)
      case pfl5 => (intro f hf; cases hf)
      case pend5 =>
      intro w1 hb1 hR hD
      have d0 : x0 = .agg #[.slice a sh.length c, .slice b st.length d, .int .i64 off] := hR 0 (by decide)
      have d1 : x1 = .pointer (some ⟨w.heap.size, 0, none⟩) := hR 1 (by decide)
      have d2 : x2 = .slice a sh.length c := hR 2 (by decide)
      have d3 : x3 = .int .i64 (k : Int) := hR 3 (by decide)
      have d4 : (IsRow wk.heap.size 3 sh.length ((standsI sh (k : Int)).map (Value.int .i64))) x4 w1 := hR 4 (by decide)
      have d5 : x5 = .int .i64 (z : Int) := hR 5 (by decide)
      have d6 : x6 = .int .i64 (z : Int) := hR 6 (by decide)
      clear hR hD
      subst d0
      subst d1
      subst d2
      subst d3
      obtain ⟨a4, c4, rfl, hO4⟩ := d4
      subst d5
      subst d6
      refine wpAny_done (by kernel_rfl) ?_ _
      have F2 := Lib.hid (FK.out.next hb1)
      clear hb1 FK k0_0 k0_1 k0_2
      obtain ⟨w2, rfl⟩ : ∃ w2 : World, w2 = w1 := ⟨_, rfl⟩
      have htl : (PL.take k).length = k := by rw [List.length_take]; omega
      have hwp : ∀ x ∈ PL.take k, (Lit.int .i64 x).wf = true := by
        intro x hx
        obtain ⟨j, hj, rfl⟩ := List.getElem_of_mem (List.mem_of_mem_take hx)
        have hg := HPLg.out j (by rw [← HPLl.out]; exact hj)
        rw [List.getElem?_eq_getElem hj] at hg
        injection hg with hg
        rw [hg]
        have := atV_bound (n := (j : Int)) HV.out
        exact wf_i64_iff.2 ⟨by omega, by omega⟩
      have hin := in_any al cl _ (PL.take k) (z : Int) w2 (ints_row (F2.out.r 0 rfl) htl hwp)
      rw [htl] at hin
      have HIN := Lib.hid hin
      clear hin htl hwp
      cases hbm : hasB (PL.take k) (z : Int) with
      | true =>
        rw [hbm] at HIN
        have HOF := Lib.hid (show onceV sh st off = false by rw [HO.out]; have := not_nodup_take hkl (by rw [HPK.out]; exact List.contains_iff_mem.1 hbm); simp [this])
        clear hbm
        go_wp2_with (go_at_call 48; refine HIN.out.mono ?_; rintro e w' ⟨rfl, rfl⟩)
        go_ret
        exact ⟨ret_bool HOF.out.symm, F2.out.bel⟩
      | false =>
        rw [hbm] at HIN
        have HNM : Hid (¬ PL[k] ∈ PL.take k) := Lib.hid (by rw [HPK.out]; intro hin; have := List.contains_iff_mem.2 hin; unfold hasB at hbm; rw [hbm] at this; cases this)
        clear hbm
        go_upto_region 8 with (go_at_call 48; refine HIN.out.mono ?_; rintro e w' ⟨rfl, rfl⟩)
        go_wp2_with (at_builtin; go_loud ((refine appendI w.heap.size (.slice al k cl) k (PL.take k) (z : Int) _ _ _ rfl rfl rfl (F2.out.r 0 rfl) rfl (by omega) F2.out.hlo ?_); intro v' w3 hown _ hgr hob; rw [← HTK.out] at hown; obtain ⟨a3, c3, rfl, _⟩ := own_shape hown; have F3 := Lib.hid (F2.out.wroteO 0 rfl hgr hown (fun g hg => by rcases hob with h | h; exact .inl (h.symm.trans hg); exact .inr (by have h5 := h.symm.trans hg; injection h5 with h5; omega))); simp only [List.set_cons_zero] at F3; clear hown hgr hob F2))
        have HN2 := Lib.hid (nodup_take_succ hkl HND.out HNM.out)
        go_roundw
        case rel => exact ⟨k + 1, by omega, by go_num, a3, c3, rfl, HN2, F3⟩
        case measure => simp [intOf]; omega
    · obtain rfl : k = M := by omega
      have HOT := Lib.hid (show onceV sh st off = true by rw [HO.out]; have := HND.out; rw [List.take_of_length_le (by rw [HPLl.out]; exact Nat.le_refl _)] at this; simp [this])
      go_wp2_with (go_at_call 27; refine (HCT.out _ (FK.out.lw 0 rfl)).mono ?_; rintro e w' ⟨rfl, rfl⟩)
      go_ret
      exact ⟨ret_bool HOT.out.symm, FK.out.bel⟩
end Go.Proofs.Ytnafbgkfhojamaa
