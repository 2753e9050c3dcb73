/- Walks: the reference's views: laid words, copied words. -/
import Derived.Test.YtnafbgkfhojamaaView7
set_option linter.unusedVariables false
set_option linter.unusedSimpArgs false
namespace Go.Proofs.Ytnafbgkfhojamaa
open Go.RowKit Go.Rt
theorem wf_words {xs : List Int} (h : xs.all isW = true) : ∀ x ∈ xs, (Lit.int .i64 x).wf = true := fun x hx => by
  have h1 := isW_iff.1 (List.all_eq_true.1 h x hx)
  exact wf_i64_iff.2 ⟨by omega, by omega⟩

set_option maxRecDepth 100000 in
set_option maxHeartbeats 4000000 in
theorem rlay_any (a b ad p q : Option Addr) (c d cd cp cq : Nat) (sh st data tsh tys : List Int) (off : Int) (w : World) (h : Ints .i64 w w.heap.size a sh) (h2 : Ints .i64 w w.heap.size b st) (h3 : Ints .i64 w w.heap.size ad data) (h6 : Ints .i64 w w.heap.size q tys) (hv : viewB sh st off data.length = true) (hl : (tys.length : Int) = prodI sh) :
    Calls Try.prog 14 #[.agg #[.slice a sh.length c, .slice b st.length d, .int .i64 off], .agg #[.slice p tsh.length cp, .slice q tys.length cq], .slice ad data.length cd] w (RetWords w (layV sh st off tys data)) := by
  have HA := Lib.hid h
  have HB := Lib.hid h2
  have HD := Lib.hid h3
  have HQ := Lib.hid h6
  have hn1 : 1 ≤ data.length := by have := (viewB_iff.1 hv).2.2.1; have := (viewB_iff.1 hv).2.2.2.2.1; omega
  clear h h2 h3 h6
  have HLT := Lib.hid hl
  clear hl
  have hv0 := viewB_iff.1 hv
  have hP := goodB_prod hv0.1
  have h4 := (goodB_iff.1 hv0.1).1
  have hwN := hv0.2.2.2.1
  have HG := Lib.hid hv0.1
  have HV := Lib.hid hv
  have hcg := countE_good hv0.1
  obtain ⟨M, hM⟩ : ∃ M : Nat, prodI sh = M := ⟨(prodI sh).toNat, by omega⟩
  rw [hM] at hcg
  have hct := fun W (h : Ints .i64 W W.heap.size a sh) => rcount_any a c _ sh W h (goodB_dims HG.out)
  rw [hcg] at hct
  have HM := Lib.hid hM
  have hM2 : M ≤ 65536 := by omega
  obtain ⟨PL, hPL⟩ : ∃ x, placesV sh st off = x := ⟨_, rfl⟩
  have hPLl : PL.length = M := by rw [← hPL, placesV_len]; have := HM.out; omega
  have hPLg := fun k (hk : k < M) => placesV_get sh st off (k := k) (by have := HM.out; omega)
  rw [hPL] at hPLg
  have HPL := Lib.hid hPL
  have HPLl := Lib.hid hPLl
  have HPLg := Lib.hid hPLg
  have HCT := Lib.hid hct
  clear hv0 hP hcg hM hPL hPLl hPLg hct
  have hM3 : tys.length = M := by have := HLT.out; have := HM.out; omega
  have HMT := Lib.hid hM3
  have hLY : layV sh st off tys data = layP data PL tys := by unfold layV; rw [HPL.out]
  have HLY := Lib.hid hLY
  clear hLY hM3 HCT
  go_enter Try.func14, Try.ntmps14
  have F1 := Lib.hid (((Fr.start (w := w) (I := [(.i64, a, sh), (.i64, b, st), (.i64, ad, data), (.i64, q, tys)]) (by intro z hz; simp at hz; rcases hz with rfl | rfl | rfl | rfl; exact HA.out; exact HB.out; exact HD.out; exact HQ.out)).box1 (b := w.heap.size) rfl [.slice a sh.length c, .slice b st.length d, .int .i64 off] 25).box1 (b := w.heap.size + 1) (by simp) [.slice p tsh.length cp, .slice q tys.length cq] 28)
  simp only [List.nil_append, List.cons_append] at F1
  go_upto_region 1 with fail
  obtain ⟨W1, hW1⟩ : ∃ W1, ((w.alloc (.cells #[.slice a sh.length c, .slice b st.length d, .int .i64 off] 25)).alloc (.cells #[.slice p tsh.length cp, .slice q tys.length cq] 28)) = W1 := ⟨_, rfl⟩
  rw [hW1] at F1 ⊢
  clear hW1
  go_wp2_with (go_at_call 15; refine (copyWords_any ad cd data W1 (F1.out.lw 2 rfl) (by omega)).mono ?_; rintro e w2 ⟨v, rfl, hown, hb⟩; obtain ⟨al, cl, rfl, hsh⟩ := own_shape hown; obtain ⟨gl, rfl, _⟩ := hsh.resolve_left (by omega); clear hsh; have F2 := Lib.hid (F1.out.addO hb hown); simp only [List.nil_append] at F2; clear hown hb F1)
  have e1 : layP data (PL.take 0) (tys.take 0) = data := by simp [layP]
  go_loopw [8] (fun i wr => ∃ k : Nat, k ≤ tys.length ∧ i = .int .i64 k ∧ Hid (Fr w.heap.size w wr [(w.heap.size, [.slice a sh.length c, .slice b st.length d, .int .i64 off]), (w.heap.size + 1, [.slice p tsh.length cp, .slice q tys.length cq])] [(.i64, a, sh), (.i64, b, st), (.i64, ad, data), (.i64, q, tys)] [⟨2, .slice (some ⟨gl, 0, none⟩) data.length cl, data.length, (layP data (PL.take k) (tys.take k)).map (Value.int .i64)⟩] [])) (fun i _ => tys.length - (intOf i).toNat)
  case atStart => exact ⟨0, Nat.zero_le _, rfl, Lib.hid (by rw [e1]; exact F2.out)⟩
  case round =>
    clear F2 e1
    obtain ⟨k, hk, rfl, FK⟩ := hrel
    obtain ⟨wk, rfl⟩ : ∃ wk : World, wk = wr := ⟨_, rfl⟩
    have k0_0 := FK.out.c 0 0 rfl rfl
    have k0_1 := FK.out.c 0 1 rfl rfl
    have k0_2 := FK.out.c 0 2 rfl rfl
    have k1_0 := FK.out.c 1 0 rfl rfl
    have k1_1 := FK.out.c 1 1 rfl rfl
    by_cases hlt2 : k < tys.length
    · skip
      have hlt : k < M := by rw [← HMT.out]; exact hlt2
      have hat := atV_bound (n := (k : Int)) HV.out
      have hpg := HPLg.out k hlt
      obtain ⟨z, hz⟩ : ∃ z : Nat, atV sh st off k = z := ⟨(atV sh st off k).toNat, by omega⟩
      rw [hz] at hat hpg
      have hkl : k < PL.length := by rw [HPLl.out]; exact hlt
      have hpk : PL[k] = (z : Int) := by rw [List.getElem?_eq_getElem hkl] at hpg; injection hpg
      have htk := take_snoc PL k hkl
      rw [hpk] at htk
      have HTK := Lib.hid htk
      have HZ := Lib.hid hz
      have HPK := Lib.hid hpk
      clear hpg hz hpk htk
      have hzd : z < data.length := by omega
      have hst := layP_take_succ data PL tys k hkl hlt2
      rw [HPK.out, Int.toNat_natCast] at hst
      obtain ⟨y, hy⟩ : ∃ y, tys[k] = y := ⟨_, rfl⟩
      rw [hy] at hst
      obtain ⟨_, _, hcY⟩ := FK.out.l 3 rfl
      obtain ⟨gy, oy, rfl, hlb, hcd⟩ := hcY k hlt2
      rw [List.getElem?_eq_getElem hlt2, hy] at hcd
      simp only [Option.getD_some] at hcd
      have HCD := Lib.hid hcd
      have HST := Lib.hid hst
      have hget : ((layP data (PL.take k) (tys.take k)).map (Value.int .i64))[z]? = some (.int .i64 ((layP data (PL.take k) (tys.take k))[z]?.getD 0)) := by
        have hl := layP_len data (PL.take k) (tys.take k)
        rw [List.getElem?_map, List.getElem?_eq_getElem (by omega)]
        rfl
      have HGET := Lib.hid hget
      clear hget hcd hy hst hcY hat
      go_upto_region 5 with fail
      refine wp_region_parts2 (w := wk) 13 1 none [] [(fun u _ => u = .slice (some ⟨gl, 0, none⟩) data.length cl), (fun u _ => u = .agg #[.slice a sh.length c, .slice b st.length d, .int .i64 off]), (fun u _ => u = .pointer (some ⟨w.heap.size, 0, none⟩)), (fun u _ => u = .slice a sh.length c), (fun u _ => u = .int .i64 (k : Int)), ((IsRow wk.heap.size 3 sh.length ((standsI sh (k : Int)).map (Value.int .i64)))), (fun u _ => u = .int .i64 (z : Int)), (fun u _ => u = .pointer (some ⟨w.heap.size + 1, 1, none⟩)), (fun u _ => u = .slice (some ⟨gy, oy, none⟩) tys.length cq), (fun u _ => u = .int .i64 (k : Int)), (fun u _ => u = .pointer (some ⟨gy, oy + k, none⟩)), (fun u _ => u = .int .i64 y), (fun u _ => u = .pointer (some ⟨gl, z, none⟩))] [some 18, some 19, some 20, some 21, some 22, some 23, some 24, some 25, some 26, some 27, some 28, some 29, some 30, none] #[true, true, true, true, true, true, true, true, true, true, true, true, true, false] #[true, true, true, true, true, true, true, true, true, true, true, true, true, false] (by kernel_rfl) rfl (by kernel_rfl) (by kernel_rfl) rfl (by kernel_rfl) (by kernel_rfl) (.cons (carries_eq _) (.cons (carries_eq _) (.cons (carries_eq _) (.cons (carries_eq _) (.cons (carries_eq _) (.cons (isRow_carries _ _ _ _) (.cons (carries_eq _) (.cons (carries_eq _) (.cons (carries_eq _) (.cons (carries_eq _) (.cons (carries_eq _) (.cons (carries_eq _) (.cons (carries_eq _) .nil))))))))))))) (fun vs b hvl hvb => ?_)
      obtain ⟨x0, x1, x2, x3, x4, x5, x6, x7, x8, x9, x10, x11, x12, x13, rfl⟩ : ∃ x0 x1 x2 x3 x4 x5 x6 x7 x8 x9 x10 x11 x12 x13, vs = [x0, x1, x2, x3, x4, x5, x6, x7, x8, x9, x10, x11, x12, x13] := lst14 hvl
      clear hvl
      simp only [putAll, Act.put, List.setIfInBounds_toArray, List.set_cons_zero, List.set_cons_succ] at hvb
      subst hvb
      refine ⟨(.snoc (.snoc (.snoc (.snoc (.snoc (.snoc (.snoc (.snoc (.snoc (.snoc (.snoc (.snoc (.snoc .zero (PartOb.intro (d := (some 18)) (r := fun u _ => u = .slice (some ⟨gl, 0, none⟩) data.length cl) rfl rfl rfl rfl ?po5x0)) (PartOb.intro (d := (some 19)) (r := fun u _ => u = .agg #[.slice a sh.length c, .slice b st.length d, .int .i64 off]) rfl rfl rfl rfl ?po5x1)) (PartOb.intro (d := (some 20)) (r := fun u _ => u = .pointer (some ⟨w.heap.size, 0, none⟩)) rfl rfl rfl rfl ?po5x2)) (PartOb.intro (d := (some 21)) (r := fun u _ => u = .slice a sh.length c) rfl rfl rfl rfl ?po5x3)) (PartOb.intro (d := (some 22)) (r := fun u _ => u = .int .i64 (k : Int)) rfl rfl rfl rfl ?po5x4)) (PartOb.intro (d := (some 23)) (r := (IsRow wk.heap.size 3 sh.length ((standsI sh (k : Int)).map (Value.int .i64)))) rfl rfl rfl rfl ?po5x5)) (PartOb.intro (d := (some 24)) (r := fun u _ => u = .int .i64 (z : Int)) rfl rfl rfl rfl ?po5x6)) (PartOb.intro (d := (some 25)) (r := fun u _ => u = .pointer (some ⟨w.heap.size + 1, 1, none⟩)) rfl rfl rfl rfl ?po5x7)) (PartOb.intro (d := (some 26)) (r := fun u _ => u = .slice (some ⟨gy, oy, none⟩) tys.length cq) rfl rfl rfl rfl ?po5x8)) (PartOb.intro (d := (some 27)) (r := fun u _ => u = .int .i64 (k : Int)) rfl rfl rfl rfl ?po5x9)) (PartOb.intro (d := (some 28)) (r := fun u _ => u = .pointer (some ⟨gy, oy + k, none⟩)) rfl rfl rfl rfl ?po5x10)) (PartOb.intro (d := (some 29)) (r := fun u _ => u = .int .i64 y) rfl rfl rfl rfl ?po5x11)) (PartOb.intro (d := (some 30)) (r := fun u _ => u = .pointer (some ⟨gl, z, none⟩)) rfl rfl rfl rfl ?po5x12)), ?pend5, ?pfl5⟩
      case po5x0 =>
        intro w1 hb1 hd KK hK
        clear hd
        simp only [Act.put, List.setIfInBounds_toArray, List.set_cons_zero, List.set_cons_succ] at hK
        go_simp
        first | exact hK.out _ _ (Below.refl _ _) rfl | (have hk := hK.out _ _ (Below.refl _ _) rfl; revert hk; go_simp)
      case po5x1 =>
        intro w1 hb1 hd KK hK
        clear hd
        have hF := FK.out.next hb1
        have k0 := hF.c 0 0 rfl rfl
        have k1 := hF.c 0 1 rfl rfl
        have k2 := hF.c 0 2 rfl rfl
        simp only [Act.put, List.setIfInBounds_toArray, List.set_cons_zero, List.set_cons_succ] at hK
        go_simp
        first | exact hK.out _ _ (Below.refl _ _) rfl | (have hk := hK.out _ _ (Below.refl _ _) rfl; revert hk; go_simp)
      case po5x2 =>
        intro w1 hb1 hd KK hK
        clear hd
        simp only [Act.put, List.setIfInBounds_toArray, List.set_cons_zero, List.set_cons_succ] at hK
        go_simp
        first | exact hK.out _ _ (Below.refl _ _) rfl | (have hk := hK.out _ _ (Below.refl _ _) rfl; revert hk; go_simp)
      case po5x3 =>
        intro w1 hb1 hd KK hK
        have d2 : x2 = .pointer (some ⟨w.heap.size, 0, none⟩) := hd 2 (by kernel_rfl)
        clear hd
        subst d2
        have hF := FK.out.next hb1
        have k0 := hF.c 0 0 rfl rfl
        have k1 := hF.c 0 1 rfl rfl
        have k2 := hF.c 0 2 rfl rfl
        simp only [Act.put, List.setIfInBounds_toArray, List.set_cons_zero, List.set_cons_succ] at hK
        go_simp
        first | exact hK.out _ _ (Below.refl _ _) rfl | (have hk := hK.out _ _ (Below.refl _ _) rfl; revert hk; go_simp)
      case po5x4 =>
        intro w1 hb1 hd KK hK
        clear hd
        simp only [Act.put, List.setIfInBounds_toArray, List.set_cons_zero, List.set_cons_succ] at hK
        go_simp
        first | exact hK.out _ _ (Below.refl _ _) rfl | (have hk := hK.out _ _ (Below.refl _ _) rfl; revert hk; go_simp)
      case po5x5 =>
        intro w1 hb1 hd KK hK
        have d3 : x3 = .slice a sh.length c := hd 3 (by kernel_rfl)
        have d4 : x4 = .int .i64 (k : Int) := hd 4 (by kernel_rfl)
        clear hd
        subst d3
        subst d4
        simp only [Act.put, List.setIfInBounds_toArray, List.set_cons_zero, List.set_cons_succ] at hK
        go_simp
        go_at_call 30
        refine (rat_any a c sh (k : Int) w1 ((FK.out.next hb1).lw 0 rfl) HG.out (by omega) (by have := HM.out; omega)).mono ?_
        rintro e w2 ⟨v, rfl, hown, hb⟩
        obtain ⟨a2, c2, rfl, _⟩ := own_shape hown
        rw [standsI_length] at hown ⊢
        (try go_wp2_with fail)
        first | exact hK.out _ _ hb ⟨a2, c2, rfl, own_mono hown hb1.size⟩ | (have hk := hK.out _ _ hb ⟨a2, c2, rfl, own_mono hown hb1.size⟩; revert hk; go_simp)
      case po5x6 =>
        intro w1 hb1 hd KK hK
        have d1 : x1 = .agg #[.slice a sh.length c, .slice b st.length d, .int .i64 off] := hd 1 (by kernel_rfl)
        have d5 : (IsRow wk.heap.size 3 sh.length ((standsI sh (k : Int)).map (Value.int .i64))) x5 w1 := hd 5 (by kernel_rfl)
        clear hd
        subst d1
        obtain ⟨a5, c5, rfl, hO5⟩ := d5
        have hIS := ints_row hO5 (standsI_length sh (k : Int)) (wf_stands (n := (k : Int)) (goodB_dims HG.out))
        simp only [Act.put, List.setIfInBounds_toArray, List.set_cons_zero, List.set_cons_succ] at hK
        go_simp
        go_at_call 47
        refine (rplace_any a b a5 c d c5 sh st off (data.length : Int) k w1 ((FK.out.next hb1).lw 1 rfl) hIS HV.out).mono ?_
        rintro e w2 ⟨rfl, hb⟩
        rw [HZ.out]
        (try go_wp2_with fail)
        first | exact hK.out _ _ hb rfl | (have hk := hK.out _ _ hb rfl; revert hk; go_simp)
      case po5x7 =>
        intro w1 hb1 hd KK hK
        clear hd
        simp only [Act.put, List.setIfInBounds_toArray, List.set_cons_zero, List.set_cons_succ] at hK
        go_simp
        first | exact hK.out _ _ (Below.refl _ _) rfl | (have hk := hK.out _ _ (Below.refl _ _) rfl; revert hk; go_simp)
      case po5x8 =>
        intro w1 hb1 hd KK hK
        have d7 : x7 = .pointer (some ⟨w.heap.size + 1, 1, none⟩) := hd 7 (by kernel_rfl)
        clear hd
        subst d7
        have hF := FK.out.next hb1
        have k0 := hF.c 1 0 rfl rfl
        have k1 := hF.c 1 1 rfl rfl
        simp only [Act.put, List.setIfInBounds_toArray, List.set_cons_zero, List.set_cons_succ] at hK
        go_simp
        first | exact hK.out _ _ (Below.refl _ _) rfl | (have hk := hK.out _ _ (Below.refl _ _) rfl; revert hk; go_simp)
      case po5x9 =>
        intro w1 hb1 hd KK hK
        clear hd
        simp only [Act.put, List.setIfInBounds_toArray, List.set_cons_zero, List.set_cons_succ] at hK
        go_simp
        first | exact hK.out _ _ (Below.refl _ _) rfl | (have hk := hK.out _ _ (Below.refl _ _) rfl; revert hk; go_simp)
      case po5x10 =>
        intro w1 hb1 hd KK hK
        have d8 : x8 = .slice (some ⟨gy, oy, none⟩) tys.length cq := hd 8 (by kernel_rfl)
        have d9 : x9 = .int .i64 (k : Int) := hd 9 (by kernel_rfl)
        clear hd
        subst d8
        subst d9
        simp only [Act.put, List.setIfInBounds_toArray, List.set_cons_zero, List.set_cons_succ] at hK
        go_simp
        first | exact hK.out _ _ (Below.refl _ _) rfl | (have hk := hK.out _ _ (Below.refl _ _) rfl; revert hk; go_simp)
      case po5x11 =>
        intro w1 hb1 hd KK hK
        have d10 : x10 = .pointer (some ⟨gy, oy + k, none⟩) := hd 10 (by kernel_rfl)
        clear hd
        subst d10
        have hcx := (hb1.cell (p := ⟨gy, oy + k, none⟩) (Nat.lt_of_lt_of_le hlb FK.out.hlo)).trans HCD.out
        simp only [Act.put, List.setIfInBounds_toArray, List.set_cons_zero, List.set_cons_succ] at hK
        go_simp
        first | exact hK.out _ _ (Below.refl _ _) rfl | (have hk := hK.out _ _ (Below.refl _ _) rfl; revert hk; go_simp)
      case po5x12 =>
        intro w1 hb1 hd KK hK
        have d0 : x0 = .slice (some ⟨gl, 0, none⟩) data.length cl := hd 0 (by kernel_rfl)
        have d1 : x1 = .agg #[.slice a sh.length c, .slice b st.length d, .int .i64 off] := hd 1 (by kernel_rfl)
        have d2 : x2 = .pointer (some ⟨w.heap.size, 0, none⟩) := hd 2 (by kernel_rfl)
        have d3 : x3 = .slice a sh.length c := hd 3 (by kernel_rfl)
        have d4 : x4 = .int .i64 (k : Int) := hd 4 (by kernel_rfl)
        have d5 : (IsRow wk.heap.size 3 sh.length ((standsI sh (k : Int)).map (Value.int .i64))) x5 w1 := hd 5 (by kernel_rfl)
        have d6 : x6 = .int .i64 (z : Int) := hd 6 (by kernel_rfl)
        have d7 : x7 = .pointer (some ⟨w.heap.size + 1, 1, none⟩) := hd 7 (by kernel_rfl)
        have d8 : x8 = .slice (some ⟨gy, oy, none⟩) tys.length cq := hd 8 (by kernel_rfl)
        have d9 : x9 = .int .i64 (k : Int) := hd 9 (by kernel_rfl)
        have d10 : x10 = .pointer (some ⟨gy, oy + k, none⟩) := hd 10 (by kernel_rfl)
        have d11 : x11 = .int .i64 y := hd 11 (by kernel_rfl)
        clear hd
        subst d0
        subst d1
        subst d2
        subst d3
        subst d4
        obtain ⟨a5, c5, rfl, hO5⟩ := d5
        subst d6
        subst d7
        subst d8
        subst d9
        subst d10
        subst d11
        simp only [Act.put, List.setIfInBounds_toArray, List.set_cons_zero, List.set_cons_succ] at hK
        go_simp
        first | exact hK.out _ _ (Below.refl _ _) rfl | (have hk := hK.out _ _ (Below.refl _ _) rfl; revert hk; go_simp)
      case pfl5 => (intro f hf; cases hf)
      case pend5 =>
      intro w1 hb1 hR hD
      have d0 : x0 = .slice (some ⟨gl, 0, none⟩) data.length cl := hR 0 (by decide)
      have d1 : x1 = .agg #[.slice a sh.length c, .slice b st.length d, .int .i64 off] := hR 1 (by decide)
      have d2 : x2 = .pointer (some ⟨w.heap.size, 0, none⟩) := hR 2 (by decide)
      have d3 : x3 = .slice a sh.length c := hR 3 (by decide)
      have d4 : x4 = .int .i64 (k : Int) := hR 4 (by decide)
      have d5 : (IsRow wk.heap.size 3 sh.length ((standsI sh (k : Int)).map (Value.int .i64))) x5 w1 := hR 5 (by decide)
      have d6 : x6 = .int .i64 (z : Int) := hR 6 (by decide)
      have d7 : x7 = .pointer (some ⟨w.heap.size + 1, 1, none⟩) := hR 7 (by decide)
      have d8 : x8 = .slice (some ⟨gy, oy, none⟩) tys.length cq := hR 8 (by decide)
      have d9 : x9 = .int .i64 (k : Int) := hR 9 (by decide)
      have d10 : x10 = .pointer (some ⟨gy, oy + k, none⟩) := hR 10 (by decide)
      have d11 : x11 = .int .i64 y := hR 11 (by decide)
      have d12 : x12 = .pointer (some ⟨gl, z, none⟩) := hR 12 (by decide)
      clear hR hD
      subst d0
      subst d1
      subst d2
      subst d3
      subst d4
      obtain ⟨a5, c5, rfl, hO5⟩ := d5
      subst d6
      subst d7
      subst d8
      subst d9
      subst d10
      subst d11
      subst d12
      refine wpAny_ready (rs := [13]) (by kernel_rfl) (by simp) (AllReady.cons rfl (fun KK hK => ?_) AllReady.nil)
      have G3 := FK.out.next hb1
      obtain ⟨r1, r2⟩ := G3.rc 0 z rfl HGET.out
      go_simp
      refine hK _ _ ?_
      clear hK KK
      try simp only [putAll, Act.put, List.setIfInBounds_toArray, List.set_cons_zero, List.set_cons_succ]
      refine wpAny_done (by kernel_rfl) ?_ _
      have G4 := Lib.hid (G3.put 0 z rfl (.int .i64 y))
      simp only [List.set_cons_zero, List.set_cons_succ] at G4
      rw [map_set, ← HST.out] at G4
      obtain ⟨V9, hV9⟩ : ∃ V9, w1.setCell ⟨gl, z, none⟩ (.int .i64 y) = V9 := ⟨_, rfl⟩
      rw [hV9] at G4 ⊢
      clear hV9 G3 FK r1 r2 hb1 k0_0 k0_1 k0_2 k1_0 k1_1
      go_wp2
      go_roundw
      case rel => exact ⟨k + 1, by omega, by go_num, G4⟩
      case measure => simp [intOf]; omega
    · obtain rfl : k = tys.length := by omega
      have hp1 : PL.take tys.length = PL := List.take_of_length_le (by rw [HPLl.out, HMT.out]; exact Nat.le_refl _)
      have hr := FK.out.r 0 rfl
      simp only [hp1, List.take_length] at hr
      have hll := layP_len data PL tys
      have HR := Lib.hid hr
      clear hr hp1
      go_wp2
      go_ret
      refine ⟨_, rfl, ?_, FK.out.bel⟩
      rw [HLY.out, hll]
      exact HR.out
end Go.Proofs.Ytnafbgkfhojamaa
