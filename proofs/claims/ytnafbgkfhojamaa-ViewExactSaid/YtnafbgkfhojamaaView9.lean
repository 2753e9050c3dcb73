/- Walks: the reference's copies of views. -/
import Derived.Test.YtnafbgkfhojamaaView8
set_option linter.unusedVariables false
set_option linter.unusedSimpArgs false
namespace Go.Proofs.Ytnafbgkfhojamaa
open Go.RowKit Go.Rt
/-- A slice of one number, in new memory. -/
def IsOne (x : Int) (u : Value) (W : World) : Prop := ∃ g cap, u = .slice (some ⟨g, 0, none⟩) 1 cap ∧ W.cell? ⟨g, 0, none⟩ = some (.int .i64 x)
theorem isOne_carries (x : Int) : Carries (IsOne x) := fun u w w' ⟨g, cap, h1, h2⟩ hb => ⟨g, cap, h1, (hb.cell (p := ⟨g, 0, none⟩) (World.block_lt_of_cell? w _ h2)).trans h2⟩
theorem oneNew (w : World) (x : Int) (t : TypeId) : (w.alloc (.cells #[.int .i64 x] t)).cell? ⟨w.heap.size, 0, none⟩ = some (.int .i64 x) := by
  simp
/-- A tensor handed back. -/
def RetTO (w : World) (sh ys : List Int) (e : Ending) (w' : World) : Prop :=
  ∃ a c b d, e = .returned (.agg #[.slice a sh.length c, .slice b ys.length d]) ∧ Fr w.heap.size w w' [] [] [⟨3, .slice a sh.length c, sh.length, sh.map (Value.int .i64)⟩, ⟨2, .slice b ys.length d, ys.length, ys.map (Value.int .i64)⟩] []

set_option maxRecDepth 100000 in
set_option maxHeartbeats 4000000 in
theorem rcopy_any (a b ad : Option Addr) (c d cd : Nat) (sh st data : List Int) (off : Int) (w : World) (h : Ints .i64 w w.heap.size a sh) (h2 : Ints .i64 w w.heap.size b st) (h3 : Ints .i64 w w.heap.size ad data) (hv : viewB sh st off data.length = true) :
    Calls Try.prog 11 #[.agg #[.slice a sh.length c, .slice b st.length d, .int .i64 off], .slice ad data.length cd] w (RetTO w sh (wordsV sh st off data)) := by
  have HA := Lib.hid h
  have HB := Lib.hid h2
  have HD := Lib.hid h3
  clear h h2 h3
  have hv0 := viewB_iff.1 hv
  have hP := goodB_prod hv0.1
  have h4 := (goodB_iff.1 hv0.1).1
  have hwN := hv0.2.2.2.1
  have HG := Lib.hid hv0.1
  have HV := Lib.hid hv
  have hcg := countE_good hv0.1
  obtain ⟨M, hM⟩ : ∃ M : Nat, prodI sh = M := ⟨(prodI sh).toNat, by omega⟩
  rw [hM] at hcg
  have hct := fun W (h : Ints .i64 W W.heap.size a sh) => rcount_any a c _ sh W h (goodB_dims HG.out)
  rw [hcg] at hct
  have HM := Lib.hid hM
  have hM2 : M ≤ 65536 := by omega
  obtain ⟨PL, hPL⟩ : ∃ x, placesV sh st off = x := ⟨_, rfl⟩
  have hPLl : PL.length = M := by rw [← hPL, placesV_len]; have := HM.out; omega
  have hPLg := fun k (hk : k < M) => placesV_get sh st off (k := k) (by have := HM.out; omega)
  rw [hPL] at hPLg
  have HPL := Lib.hid hPL
  have HPLl := Lib.hid hPLl
  have HPLg := Lib.hid hPLg
  have HCT := Lib.hid hct
  clear hv0 hP hcg hM hPL hPLl hPLg hct
  obtain ⟨WV, hWV⟩ : ∃ x, wordsV sh st off data = x := ⟨_, rfl⟩
  have hWL : WV.length = M := by rw [← hWV, wordsV_len]; have := HM.out; omega
  have hWG := fun k (hk : k < M) => wordsV_get sh st off data (k := k) (by have := HM.out; omega)
  rw [hWV] at hWG ⊢
  have HWL := Lib.hid hWL
  have HWG := Lib.hid hWG
  clear hWV hWL hWG
  go_enter Try.func11, Try.ntmps11
  have F1 := Lib.hid (((Fr.start (w := w) (I := [(.i64, a, sh), (.i64, b, st), (.i64, ad, data)]) (by intro z hz; simp at hz; rcases hz with rfl | rfl | rfl; exact HA.out; exact HB.out; exact HD.out)).box1 (b := w.heap.size) rfl [.slice a sh.length c, .slice b st.length d, .int .i64 off] 25).box1 (b := w.heap.size + 1) (by simp) [.slice none 0 0, .slice none 0 0] 28)
  simp only [List.nil_append, List.cons_append] at F1
  go_upto_region 1 with fail
  obtain ⟨W1, hW1⟩ : ∃ W1, ((w.alloc (.cells #[.slice a sh.length c, .slice b st.length d, .int .i64 off] 25)).alloc (.cells #[.slice none 0 0, .slice none 0 0] 28)) = W1 := ⟨_, rfl⟩
  rw [hW1] at F1 ⊢
  clear hW1
  have c0_0 := F1.out.c 0 0 rfl rfl
  have c0_1 := F1.out.c 0 1 rfl rfl
  have c0_2 := F1.out.c 0 2 rfl rfl
  go_upto_region 2 with (go_at_call 46; refine (copyNumbers_any a c sh W1 (F1.out.lw 0 rfl) (by omega)).mono ?_; rintro e w2 ⟨v, rfl, hown, hb⟩; obtain ⟨a9, c9, rfl, _⟩ := own_shape hown; have F2 := Lib.hid (F1.out.addO hb hown); simp only [List.nil_append] at F2; clear hown hb F1 c0_0 c0_1 c0_2)
  obtain ⟨Q, hQ⟩ : ∃ x, w2.heap.size = x := ⟨_, rfl⟩
  rw [hQ]
  have F3 := Lib.hid ((F2.out.addNil 2).box1 (b := Q) hQ [.slice a9 sh.length c9, .slice none 0 0] 28)
  simp only [List.nil_append, List.cons_append] at F3
  obtain ⟨W3, hW3⟩ : ∃ x, (w2.alloc (.cells #[.slice a9 sh.length c9, .slice none 0 0] 28)) = x := ⟨_, rfl⟩
  rw [hW3] at F3 ⊢
  clear hW3 hQ F2
  go_wp2
  go_loopw [6] (fun i wr => ∃ k : Nat, k ≤ M ∧ i = .int .i64 k ∧ ∃ al cl, Hid (Fr w.heap.size w wr [(w.heap.size, [.slice a sh.length c, .slice b st.length d, .int .i64 off]), (w.heap.size + 1, [.slice none 0 0, .slice none 0 0]), (Q, [.slice a9 sh.length c9, .slice al k cl])] [(.i64, a, sh), (.i64, b, st), (.i64, ad, data)] [⟨3, .slice a9 sh.length c9, sh.length, sh.map (Value.int .i64)⟩, ⟨2, .slice al k cl, k, (WV.take k).map (Value.int .i64)⟩] [])) (fun i _ => M - (intOf i).toNat)
  case atStart => exact ⟨0, Nat.zero_le _, rfl, none, 0, Lib.hid (by rw [List.take_zero]; exact F3.out)⟩
  case round =>
    clear F3
    obtain ⟨k, hk, rfl, al, cl, FK⟩ := hrel
    obtain ⟨wk, rfl⟩ : ∃ wk : World, wk = wr := ⟨_, rfl⟩
    have k0_0 := FK.out.c 0 0 rfl rfl
    have k0_1 := FK.out.c 0 1 rfl rfl
    have k0_2 := FK.out.c 0 2 rfl rfl
    have k1_0 := FK.out.c 1 0 rfl rfl
    have k1_1 := FK.out.c 1 1 rfl rfl
    have k2_0 := FK.out.c 2 0 rfl rfl
    have k2_1 := FK.out.c 2 1 rfl rfl
    by_cases hlt : k < M
    · skip
      have hat := atV_bound (n := (k : Int)) HV.out
      have hpg := HPLg.out k hlt
      obtain ⟨z, hz⟩ : ∃ z : Nat, atV sh st off k = z := ⟨(atV sh st off k).toNat, by omega⟩
      rw [hz] at hat hpg
      have hkl : k < PL.length := by rw [HPLl.out]; exact hlt
      have hpk : PL[k] = (z : Int) := by rw [List.getElem?_eq_getElem hkl] at hpg; injection hpg
      have htk := take_snoc PL k hkl
      rw [hpk] at htk
      have HTK := Lib.hid htk
      have HZ := Lib.hid hz
      have HPK := Lib.hid hpk
      clear hpg hz hpk htk
      have hzd : z < data.length := by omega
      have hwg := HWG.out k hlt
      rw [HZ.out, Int.toNat_natCast] at hwg
      have hkw : k < WV.length := by rw [HWL.out]; exact hlt
      have hsn := take_snoc WV k hkw
      obtain ⟨_, _, hcY⟩ := FK.out.l 2 rfl
      obtain ⟨gd, od, rfl, hlb, hcd⟩ := hcY z hzd
      obtain ⟨x, hx⟩ : ∃ x, data[z]?.getD 0 = x := ⟨_, rfl⟩
      rw [hx] at hcd hwg
      have hwk : WV[k] = x := by rw [List.getElem?_eq_getElem hkw] at hwg; injection hwg
      rw [hwk] at hsn
      have HSN := Lib.hid hsn
      have HCD := Lib.hid hcd
      clear hcd hx hwg hcY hsn hwk hat
      go_upto_region 5 with (go_at_call 27; refine (HCT.out _ (FK.out.lw 0 rfl)).mono ?_; rintro e w' ⟨rfl, rfl⟩)
      refine wp_region_parts2 (w := wk) 12 3 none [] [(fun u _ => u = .pointer (some ⟨Q, 1, none⟩)), (fun u _ => u = .slice al k cl), (fun u _ => u = .slice (some ⟨gd, od, none⟩) data.length cd), (fun u _ => u = .agg #[.slice a sh.length c, .slice b st.length d, .int .i64 off]), (fun u _ => u = .pointer (some ⟨w.heap.size, 0, none⟩)), (fun u _ => u = .slice a sh.length c), (fun u _ => u = .int .i64 (k : Int)), ((IsRow wk.heap.size 3 sh.length ((standsI sh (k : Int)).map (Value.int .i64)))), (fun u _ => u = .int .i64 (z : Int)), (fun u _ => u = .pointer (some ⟨gd, od + z, none⟩)), (fun u _ => u = .int .i64 x), ((IsOne x))] [some 18, some 19, some 20, some 21, some 22, some 23, some 24, some 25, some 26, some 27, some 28, some 29, some 30, some 31, none] #[true, true, true, true, true, true, true, true, true, true, true, true, false, false, false] #[true, true, true, true, true, true, true, true, true, true, true, true, false, false, false] (by kernel_rfl) rfl (by kernel_rfl) (by kernel_rfl) rfl (by kernel_rfl) (by kernel_rfl) (.cons (carries_eq _) (.cons (carries_eq _) (.cons (carries_eq _) (.cons (carries_eq _) (.cons (carries_eq _) (.cons (carries_eq _) (.cons (carries_eq _) (.cons (isRow_carries _ _ _ _) (.cons (carries_eq _) (.cons (carries_eq _) (.cons (carries_eq _) (.cons (isOne_carries _) .nil)))))))))))) (fun vs b hvl hvb => ?_)
      obtain ⟨x0, x1, x2, x3, x4, x5, x6, x7, x8, x9, x10, x11, x12, x13, x14, rfl⟩ : ∃ x0 x1 x2 x3 x4 x5 x6 x7 x8 x9 x10 x11 x12 x13 x14, vs = [x0, x1, x2, x3, x4, x5, x6, x7, x8, x9, x10, x11, x12, x13, x14] := lst15 hvl
      clear hvl
      simp only [putAll, Act.put, List.setIfInBounds_toArray, List.set_cons_zero, List.set_cons_succ] at hvb
      subst hvb
      refine ⟨(.snoc (.snoc (.snoc (.snoc (.snoc (.snoc (.snoc (.snoc (.snoc (.snoc (.snoc (.snoc .zero (PartOb.intro (d := (some 18)) (r := fun u _ => u = .pointer (some ⟨Q, 1, none⟩)) rfl rfl rfl rfl ?po5x0)) (PartOb.intro (d := (some 19)) (r := fun u _ => u = .slice al k cl) rfl rfl rfl rfl ?po5x1)) (PartOb.intro (d := (some 20)) (r := fun u _ => u = .slice (some ⟨gd, od, none⟩) data.length cd) rfl rfl rfl rfl ?po5x2)) (PartOb.intro (d := (some 21)) (r := fun u _ => u = .agg #[.slice a sh.length c, .slice b st.length d, .int .i64 off]) rfl rfl rfl rfl ?po5x3)) (PartOb.intro (d := (some 22)) (r := fun u _ => u = .pointer (some ⟨w.heap.size, 0, none⟩)) rfl rfl rfl rfl ?po5x4)) (PartOb.intro (d := (some 23)) (r := fun u _ => u = .slice a sh.length c) rfl rfl rfl rfl ?po5x5)) (PartOb.intro (d := (some 24)) (r := fun u _ => u = .int .i64 (k : Int)) rfl rfl rfl rfl ?po5x6)) (PartOb.intro (d := (some 25)) (r := (IsRow wk.heap.size 3 sh.length ((standsI sh (k : Int)).map (Value.int .i64)))) rfl rfl rfl rfl ?po5x7)) (PartOb.intro (d := (some 26)) (r := fun u _ => u = .int .i64 (z : Int)) rfl rfl rfl rfl ?po5x8)) (PartOb.intro (d := (some 27)) (r := fun u _ => u = .pointer (some ⟨gd, od + z, none⟩)) rfl rfl rfl rfl ?po5x9)) (PartOb.intro (d := (some 28)) (r := fun u _ => u = .int .i64 x) rfl rfl rfl rfl ?po5x10)) (PartOb.intro (d := (some 29)) (r := (IsOne x)) rfl rfl rfl rfl ?po5x11)), ?pend5, ?pfl5⟩
      case po5x0 =>
        intro w1 hb1 hd KK hK
        clear hd
        simp only [Act.put, List.setIfInBounds_toArray, List.set_cons_zero, List.set_cons_succ] at hK
        go_simp
        first | exact hK.out _ _ (Below.refl _ _) rfl | (have hk := hK.out _ _ (Below.refl _ _) rfl; revert hk; go_simp)
      case po5x1 =>
        intro w1 hb1 hd KK hK
        have d0 : x0 = .pointer (some ⟨Q, 1, none⟩) := hd 0 (by kernel_rfl)
        clear hd
        subst d0
        have hF := FK.out.next hb1
        have k0 := hF.c 2 0 rfl rfl
        have k1 := hF.c 2 1 rfl rfl
        simp only [Act.put, List.setIfInBounds_toArray, List.set_cons_zero, List.set_cons_succ] at hK
        go_simp
        first | exact hK.out _ _ (Below.refl _ _) rfl | (have hk := hK.out _ _ (Below.refl _ _) rfl; revert hk; go_simp)
      case po5x2 =>
        intro w1 hb1 hd KK hK
        clear hd
        simp only [Act.put, List.setIfInBounds_toArray, List.set_cons_zero, List.set_cons_succ] at hK
        go_simp
        first | exact hK.out _ _ (Below.refl _ _) rfl | (have hk := hK.out _ _ (Below.refl _ _) rfl; revert hk; go_simp)
      case po5x3 =>
        intro w1 hb1 hd KK hK
        clear hd
        have hF := FK.out.next hb1
        have k0 := hF.c 0 0 rfl rfl
        have k1 := hF.c 0 1 rfl rfl
        have k2 := hF.c 0 2 rfl rfl
        simp only [Act.put, List.setIfInBounds_toArray, List.set_cons_zero, List.set_cons_succ] at hK
        go_simp
        first | exact hK.out _ _ (Below.refl _ _) rfl | (have hk := hK.out _ _ (Below.refl _ _) rfl; revert hk; go_simp)
      case po5x4 =>
        intro w1 hb1 hd KK hK
        clear hd
        simp only [Act.put, List.setIfInBounds_toArray, List.set_cons_zero, List.set_cons_succ] at hK
        go_simp
        first | exact hK.out _ _ (Below.refl _ _) rfl | (have hk := hK.out _ _ (Below.refl _ _) rfl; revert hk; go_simp)
      case po5x5 =>
        intro w1 hb1 hd KK hK
        have d4 : x4 = .pointer (some ⟨w.heap.size, 0, none⟩) := hd 4 (by kernel_rfl)
        clear hd
        subst d4
        have hF := FK.out.next hb1
        have k0 := hF.c 0 0 rfl rfl
        have k1 := hF.c 0 1 rfl rfl
        have k2 := hF.c 0 2 rfl rfl
        simp only [Act.put, List.setIfInBounds_toArray, List.set_cons_zero, List.set_cons_succ] at hK
        go_simp
        first | exact hK.out _ _ (Below.refl _ _) rfl | (have hk := hK.out _ _ (Below.refl _ _) rfl; revert hk; go_simp)
      case po5x6 =>
        intro w1 hb1 hd KK hK
        clear hd
        simp only [Act.put, List.setIfInBounds_toArray, List.set_cons_zero, List.set_cons_succ] at hK
        go_simp
        first | exact hK.out _ _ (Below.refl _ _) rfl | (have hk := hK.out _ _ (Below.refl _ _) rfl; revert hk; go_simp)
      case po5x7 =>
        intro w1 hb1 hd KK hK
        have d5 : x5 = .slice a sh.length c := hd 5 (by kernel_rfl)
        have d6 : x6 = .int .i64 (k : Int) := hd 6 (by kernel_rfl)
        clear hd
        subst d5
        subst d6
        simp only [Act.put, List.setIfInBounds_toArray, List.set_cons_zero, List.set_cons_succ] at hK
        go_simp
        go_at_call 30
        refine (rat_any a c sh (k : Int) w1 ((FK.out.next hb1).lw 0 rfl) HG.out (by omega) (by have := HM.out; omega)).mono ?_
        rintro e w2 ⟨v, rfl, hown, hb⟩
        obtain ⟨a2, c2, rfl, _⟩ := own_shape hown
        rw [standsI_length] at hown ⊢
        (try go_wp2_with fail)
        first | exact hK.out _ _ hb ⟨a2, c2, rfl, own_mono hown hb1.size⟩ | (have hk := hK.out _ _ hb ⟨a2, c2, rfl, own_mono hown hb1.size⟩; revert hk; go_simp)
      case po5x8 =>
        intro w1 hb1 hd KK hK
        have d3 : x3 = .agg #[.slice a sh.length c, .slice b st.length d, .int .i64 off] := hd 3 (by kernel_rfl)
        have d7 : (IsRow wk.heap.size 3 sh.length ((standsI sh (k : Int)).map (Value.int .i64))) x7 w1 := hd 7 (by kernel_rfl)
        clear hd
        subst d3
        obtain ⟨a7, c7, rfl, hO7⟩ := d7
        have hIS := ints_row hO7 (standsI_length sh (k : Int)) (wf_stands (n := (k : Int)) (goodB_dims HG.out))
        simp only [Act.put, List.setIfInBounds_toArray, List.set_cons_zero, List.set_cons_succ] at hK
        go_simp
        go_at_call 47
        refine (rplace_any a b a7 c d c7 sh st off (data.length : Int) k w1 ((FK.out.next hb1).lw 1 rfl) hIS HV.out).mono ?_
        rintro e w2 ⟨rfl, hb⟩
        rw [HZ.out]
        (try go_wp2_with fail)
        first | exact hK.out _ _ hb rfl | (have hk := hK.out _ _ hb rfl; revert hk; go_simp)
      case po5x9 =>
        intro w1 hb1 hd KK hK
        have d2 : x2 = .slice (some ⟨gd, od, none⟩) data.length cd := hd 2 (by kernel_rfl)
        have d8 : x8 = .int .i64 (z : Int) := hd 8 (by kernel_rfl)
        clear hd
        subst d2
        subst d8
        simp only [Act.put, List.setIfInBounds_toArray, List.set_cons_zero, List.set_cons_succ] at hK
        go_simp
        first | exact hK.out _ _ (Below.refl _ _) rfl | (have hk := hK.out _ _ (Below.refl _ _) rfl; revert hk; go_simp)
      case po5x10 =>
        intro w1 hb1 hd KK hK
        have d9 : x9 = .pointer (some ⟨gd, od + z, none⟩) := hd 9 (by kernel_rfl)
        clear hd
        subst d9
        have hcx := (hb1.cell (p := ⟨gd, od + z, none⟩) (Nat.lt_of_lt_of_le hlb FK.out.hlo)).trans HCD.out
        simp only [Act.put, List.setIfInBounds_toArray, List.set_cons_zero, List.set_cons_succ] at hK
        go_simp
        first | exact hK.out _ _ (Below.refl _ _) rfl | (have hk := hK.out _ _ (Below.refl _ _) rfl; revert hk; go_simp)
      case po5x11 =>
        intro w1 hb1 hd KK hK
        have d10 : x10 = .int .i64 x := hd 10 (by kernel_rfl)
        clear hd
        subst d10
        simp only [Act.put, List.setIfInBounds_toArray, List.set_cons_zero, List.set_cons_succ] at hK
        go_simp
        first | exact hK.out _ _ ((Below.refl _ _).alloc (Nat.le_refl _) _) ⟨_, _, rfl, oneNew w1 x _⟩ | (have hk := hK.out _ _ ((Below.refl _ _).alloc (Nat.le_refl _) _) ⟨_, _, rfl, oneNew w1 x _⟩; revert hk; go_simp)
      case pfl5 => (intro f hf; cases hf)
      case pend5 =>
      intro w1 hb1 hR hD
      have d0 : x0 = .pointer (some ⟨Q, 1, none⟩) := hR 0 (by decide)
      have d1 : x1 = .slice al k cl := hR 1 (by decide)
      have d2 : x2 = .slice (some ⟨gd, od, none⟩) data.length cd := hR 2 (by decide)
      have d3 : x3 = .agg #[.slice a sh.length c, .slice b st.length d, .int .i64 off] := hR 3 (by decide)
      have d4 : x4 = .pointer (some ⟨w.heap.size, 0, none⟩) := hR 4 (by decide)
      have d5 : x5 = .slice a sh.length c := hR 5 (by decide)
      have d6 : x6 = .int .i64 (k : Int) := hR 6 (by decide)
      have d7 : (IsRow wk.heap.size 3 sh.length ((standsI sh (k : Int)).map (Value.int .i64))) x7 w1 := hR 7 (by decide)
      have d8 : x8 = .int .i64 (z : Int) := hR 8 (by decide)
      have d9 : x9 = .pointer (some ⟨gd, od + z, none⟩) := hR 9 (by decide)
      have d10 : x10 = .int .i64 x := hR 10 (by decide)
      have d11 : (IsOne x) x11 w1 := hR 11 (by decide)
      clear hR hD
      subst d0
      subst d1
      subst d2
      subst d3
      subst d4
      subst d5
      subst d6
      obtain ⟨a7, c7, rfl, hO7⟩ := d7
      subst d8
      subst d9
      subst d10
      obtain ⟨g11, c11, rfl, hO11⟩ := d11
      refine wpAny_ready (rs := [12]) (by kernel_rfl) (by simp) (AllReady.cons rfl (fun KK hK => ?_) AllReady.nil)
      have G3 := FK.out.next hb1
      refine stepApp1 26 2 infoI64 Try.underlying26 w.heap.size (.slice al k cl) k (WV.take k) x c11 ⟨g11, 0, none⟩ _ _ rfl rfl rfl (G3.r 1 rfl) rfl hO11 (by omega) G3.hlo ?_
      intro g3 c3 w3 hown hgr hob
      rw [← HSN.out] at hown
      have G4 := G3.wroteO 1 rfl hgr hown (fun g hg => by rcases hob with h | h; exact .inl (h.trans hg); exact .inr (by injection hg with hg; simp only at hg; omega))
      simp only [List.set_cons_zero, List.set_cons_succ] at G4
      clear hown hgr hob G3
      refine hK _ _ ?_
      clear hK KK
      try simp only [putAll, Act.put, List.setIfInBounds_toArray, List.set_cons_zero, List.set_cons_succ]
      refine wpAny_ready (rs := [13]) (by kernel_rfl) (by simp) (AllReady.cons rfl (fun KK hK => ?_) AllReady.nil)
      go_simp
      refine hK _ _ ?_
      clear hK KK
      try simp only [putAll, Act.put, List.setIfInBounds_toArray, List.set_cons_zero, List.set_cons_succ]
      refine wpAny_ready (rs := [14]) (by kernel_rfl) (by simp) (AllReady.cons rfl (fun KK hK => ?_) AllReady.nil)
      have q0 := G4.c 2 1 rfl rfl
      have q1 := G4.f 2 1 rfl rfl
      go_simp
      refine hK _ _ ?_
      clear hK KK
      try simp only [putAll, Act.put, List.setIfInBounds_toArray, List.set_cons_zero, List.set_cons_succ]
      refine wpAny_done (by kernel_rfl) ?_ _
      have G5 := Lib.hid (G4.setC 2 1 rfl (by simp) (.slice (some ⟨g3, 0, none⟩) (k + 1) c3))
      simp only [List.set_cons_zero, List.set_cons_succ] at G5
      obtain ⟨V9, hV9⟩ : ∃ V9, w3.setCell ⟨Q, 1, none⟩ (.slice (some ⟨g3, 0, none⟩) (k + 1) c3) = V9 := ⟨_, rfl⟩
      rw [hV9] at G5 ⊢
      clear hV9 G4 FK q0 q1 hb1 k0_0 k0_1 k0_2 k1_0 k1_1 k2_0 k2_1
      go_wp2
      go_roundw
      case rel => exact ⟨k + 1, by omega, by go_num, some ⟨g3, 0, none⟩, c3, G5⟩
      case measure => simp [intOf]; omega
    · obtain rfl : k = M := by omega
      have q1 := FK.out.f 1 0 rfl rfl
      have q2 := FK.out.f 1 1 rfl rfl
      go_wp2_with (go_at_call 27; refine (HCT.out _ (FK.out.lw 0 rfl)).mono ?_; rintro e w' ⟨rfl, rfl⟩)
      have FZ := FK.out.set 1 rfl (by simp) [.slice a9 sh.length c9, .slice al k cl] rfl
      simp only [setL, Nat.reduceAdd, List.set_cons_zero, List.set_cons_succ] at FZ
      have z0 := FZ.c 1 0 rfl rfl
      have z1 := FZ.c 1 1 rfl rfl
      have hp1 : WV.take k = WV := List.take_of_length_le (by rw [HWL.out]; exact Nat.le_refl _)
      rw [hp1] at FZ
      refine bodyPost_ret (v := .agg #[.slice a9 sh.length c9, .slice al k cl]) ?_ rfl ⟨a9, c9, al, cl, by rw [HWL.out], by rw [HWL.out]; exact FZ.rows⟩
      rw [results_cV rfl]
      go_simp
end Go.Proofs.Ytnafbgkfhojamaa
