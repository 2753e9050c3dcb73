/- Walks: the reference's transposed views. -/
import Derived.Test.YtnafbgkfhojamaaViewE
set_option linter.unusedVariables false
set_option linter.unusedSimpArgs false
namespace Go.Proofs.Ytnafbgkfhojamaa
open Go.RowKit Go.Rt

set_option maxRecDepth 100000 in
set_option maxHeartbeats 4000000 in
theorem rtrans_any (a b ax : Option Addr) (c d cx : Nat) (sh st axs : List Int) (off : Int) (w : World) (h : Ints .i64 w w.heap.size a sh) (h2 : Ints .i64 w w.heap.size b st) (h3 : Ints .i64 w w.heap.size ax axs) (h4 : sh.length ≤ 4) (hl2 : st.length = sh.length) (hx : axesB axs sh.length = true) :
    Calls Try.prog 36 #[.agg #[.slice a sh.length c, .slice b st.length d, .int .i64 off], .slice ax axs.length cx] w (RetVO w (permL sh axs) (permL st axs) off) := by
  have HA := Lib.hid h
  have HB := Lib.hid h2
  have HX := Lib.hid h3
  have HL2 := Lib.hid hl2
  have HON := Lib.hid (axesB_once.1 hx)
  have hxl := HON.out.len
  have hN4 : axs.length ≤ 4 := by omega
  clear h h2 h3 hx hxl hl2
  go_enter Try.func36, Try.ntmps36
  have F1 := Lib.hid (((Fr.start (w := w) (I := [(.i64, a, sh), (.i64, b, st), (.i64, ax, axs)]) (by intro z hz; simp at hz; rcases hz with rfl | rfl | rfl; exact HA.out; exact HB.out; exact HX.out)).box1 (b := w.heap.size) rfl [.slice a sh.length c, .slice b st.length d, .int .i64 off] 25).box1 (b := w.heap.size + 1) (by simp) [.slice none 0 0, .slice none 0 0, .int .i64 0] 25)
  simp only [List.nil_append, List.cons_append] at F1
  go_upto_region 1 with fail
  obtain ⟨W1, hW1⟩ : ∃ W1, ((w.alloc (.cells #[.slice a sh.length c, .slice b st.length d, .int .i64 off] 25)).alloc (.cells #[.slice none 0 0, .slice none 0 0, .int .i64 0] 25)) = W1 := ⟨_, rfl⟩
  rw [hW1] at F1 ⊢
  clear hW1
  have c0_0 := F1.out.c 0 0 rfl rfl
  have c0_1 := F1.out.c 0 1 rfl rfl
  have c0_2 := F1.out.c 0 2 rfl rfl
  go_upto_region 2 with fail
  obtain ⟨Q, hQ⟩ : ∃ x, W1.heap.size = x := ⟨_, rfl⟩
  rw [hQ]
  have F4 := Lib.hid (((F1.out.addNil 3).addNil 3).box1 (b := Q) hQ [.slice none 0 0, .slice none 0 0, .int .i64 off] 25)
  simp only [List.nil_append, List.cons_append] at F4
  obtain ⟨W4, hW4⟩ : ∃ x, (W1.alloc (.cells #[.slice none 0 0, .slice none 0 0, .int .i64 off] 25)) = x := ⟨_, rfl⟩
  rw [hW4] at F4 ⊢
  clear hW4 hQ F1 c0_0 c0_1 c0_2
  go_wp2
  go_loopw [6] (fun i wr => ∃ k : Nat, k ≤ axs.length ∧ i = .int .i64 k ∧ ∃ a1 c1 a2 c2, Hid (Fr w.heap.size w wr [(w.heap.size, [.slice a sh.length c, .slice b st.length d, .int .i64 off]), (w.heap.size + 1, [.slice none 0 0, .slice none 0 0, .int .i64 0]), (Q, [.slice a1 k c1, .slice a2 k c2, .int .i64 off])] [(.i64, a, sh), (.i64, b, st), (.i64, ax, axs)] [⟨3, .slice a1 k c1, k, (permL sh (axs.take k)).map (Value.int .i64)⟩, ⟨3, .slice a2 k c2, k, (permL st (axs.take k)).map (Value.int .i64)⟩] [])) (fun i _ => axs.length - (intOf i).toNat)
  case atStart => exact ⟨0, Nat.zero_le _, rfl, none, 0, none, 0, F4⟩
  case round =>
    clear F4
    obtain ⟨k, hk, rfl, a1, c1, a2, c2, FK⟩ := hrel
    obtain ⟨wk, rfl⟩ : ∃ wk : World, wk = wr := ⟨_, rfl⟩
    by_cases hlt : k < axs.length
    · skip
      have hbd := HON.out.bnd _ (List.getElem_mem hlt)
      have hp1 := permL_succ sh axs k hlt
      have hp2 := permL_succ st axs k hlt
      obtain ⟨_, _, hcX⟩ := FK.out.l 2 rfl
      obtain ⟨gx, ox, rfl, hlx, hcx⟩ := hcX k hlt
      rw [List.getElem?_eq_getElem hlt] at hcx
      simp only [Option.getD_some] at hcx
      obtain ⟨m, hm⟩ : ∃ m : Nat, axs[k] = m := ⟨axs[k].toNat, by omega⟩
      rw [hm] at hbd hp1 hp2 hcx
      rw [Int.toNat_natCast] at hp1 hp2
      have hmS : m < sh.length := by omega
      have hmT : m < st.length := by have := HL2.out; omega
      obtain ⟨_, _, hcA⟩ := FK.out.l 0 rfl
      obtain ⟨_, _, hcB⟩ := FK.out.l 1 rfl
      obtain ⟨ga, oa, rfl, hla, hca⟩ := hcA m hmS
      obtain ⟨gb, ob, rfl, hlb, hcb⟩ := hcB m hmT
      obtain ⟨x, hxe⟩ : ∃ x, sh[m]?.getD 0 = x := ⟨_, rfl⟩
      obtain ⟨y, hye⟩ : ∃ y, st[m]?.getD 0 = y := ⟨_, rfl⟩
      rw [hxe] at hca hp1
      rw [hye] at hcb hp2
      have HP1 := Lib.hid hp1
      have HP2 := Lib.hid hp2
      have HXW : Hid (w.cell? ⟨gx, ox + k, none⟩ = some (.int .i64 (m : Int))) := Lib.hid ((FK.out.bel.cell (p := ⟨gx, ox + k, none⟩) hlx).symm.trans hcx)
      have HCW : Hid (w.cell? ⟨ga, oa + m, none⟩ = some (.int .i64 x)) := Lib.hid ((FK.out.bel.cell (p := ⟨ga, oa + m, none⟩) hla).symm.trans hca)
      have HDW : Hid (w.cell? ⟨gb, ob + m, none⟩ = some (.int .i64 y)) := Lib.hid ((FK.out.bel.cell (p := ⟨gb, ob + m, none⟩) hlb).symm.trans hcb)
      clear hbd hp1 hp2 hcX hm hcA hcB hxe hye hca hcb hcx
      go_upto_region 5 with fail
      refine wp_region_parts2 (w := wk) 11 3 none [] [(fun u _ => u = .pointer (some ⟨Q, 0, none⟩)), (fun u _ => u = .slice a1 k c1), (fun u _ => u = .pointer (some ⟨w.heap.size, 0, none⟩)), (fun u _ => u = .slice (some ⟨ga, oa, none⟩) sh.length c), (fun u _ => u = .slice (some ⟨gx, ox, none⟩) axs.length cx), (fun u _ => u = .int .i64 (k : Int)), (fun u _ => u = .pointer (some ⟨gx, ox + k, none⟩)), (fun u _ => u = .int .i64 (m : Int)), (fun u _ => u = .pointer (some ⟨ga, oa + m, none⟩)), (fun u _ => u = .int .i64 x), ((IsOne x))] [some 16, some 17, some 18, some 19, some 20, some 21, some 22, some 23, some 24, some 25, some 26, some 27, some 28, none] #[true, true, true, true, true, true, true, true, true, true, true, false, false, false] #[true, true, true, true, true, true, true, true, true, true, true, false, false, false] (by kernel_rfl) rfl (by kernel_rfl) (by kernel_rfl) rfl (by kernel_rfl) (by kernel_rfl) (.cons (carries_eq _) (.cons (carries_eq _) (.cons (carries_eq _) (.cons (carries_eq _) (.cons (carries_eq _) (.cons (carries_eq _) (.cons (carries_eq _) (.cons (carries_eq _) (.cons (carries_eq _) (.cons (carries_eq _) (.cons (isOne_carries _) .nil))))))))))) (fun vs b hvl hvb => ?_)
      obtain ⟨x0, x1, x2, x3, x4, x5, x6, x7, x8, x9, x10, x11, x12, x13, rfl⟩ : ∃ x0 x1 x2 x3 x4 x5 x6 x7 x8 x9 x10 x11 x12 x13, vs = [x0, x1, x2, x3, x4, x5, x6, x7, x8, x9, x10, x11, x12, x13] := lst14 hvl
      clear hvl
      simp only [putAll, Act.put, List.setIfInBounds_toArray, List.set_cons_zero, List.set_cons_succ] at hvb
      subst hvb
      refine ⟨(.snoc (.snoc (.snoc (.snoc (.snoc (.snoc (.snoc (.snoc (.snoc (.snoc (.snoc .zero (PartOb.intro (d := (some 16)) (r := fun u _ => u = .pointer (some ⟨Q, 0, none⟩)) rfl rfl rfl rfl ?po5x0)) (PartOb.intro (d := (some 17)) (r := fun u _ => u = .slice a1 k c1) rfl rfl rfl rfl ?po5x1)) (PartOb.intro (d := (some 18)) (r := fun u _ => u = .pointer (some ⟨w.heap.size, 0, none⟩)) rfl rfl rfl rfl ?po5x2)) (PartOb.intro (d := (some 19)) (r := fun u _ => u = .slice (some ⟨ga, oa, none⟩) sh.length c) rfl rfl rfl rfl ?po5x3)) (PartOb.intro (d := (some 20)) (r := fun u _ => u = .slice (some ⟨gx, ox, none⟩) axs.length cx) rfl rfl rfl rfl ?po5x4)) (PartOb.intro (d := (some 21)) (r := fun u _ => u = .int .i64 (k : Int)) rfl rfl rfl rfl ?po5x5)) (PartOb.intro (d := (some 22)) (r := fun u _ => u = .pointer (some ⟨gx, ox + k, none⟩)) rfl rfl rfl rfl ?po5x6)) (PartOb.intro (d := (some 23)) (r := fun u _ => u = .int .i64 (m : Int)) rfl rfl rfl rfl ?po5x7)) (PartOb.intro (d := (some 24)) (r := fun u _ => u = .pointer (some ⟨ga, oa + m, none⟩)) rfl rfl rfl rfl ?po5x8)) (PartOb.intro (d := (some 25)) (r := fun u _ => u = .int .i64 x) rfl rfl rfl rfl ?po5x9)) (PartOb.intro (d := (some 26)) (r := (IsOne x)) rfl rfl rfl rfl ?po5x10)), ?pend5, ?pfl5⟩
      case po5x0 =>
        intro w1 hb1 hd KK hK
        clear hd
        simp only [Act.put, List.setIfInBounds_toArray, List.set_cons_zero, List.set_cons_succ] at hK
        go_simp
        first | exact hK.out _ _ (Below.refl _ _) rfl | (have hk := hK.out _ _ (Below.refl _ _) rfl; revert hk; go_simp)
      case po5x1 =>
        intro w1 hb1 hd KK hK
        have d0 : x0 = .pointer (some ⟨Q, 0, none⟩) := hd 0 (by kernel_rfl)
        clear hd
        subst d0
        have hF := FK.out.next hb1
        have k0 := hF.c 2 0 rfl rfl
        simp only [Act.put, List.setIfInBounds_toArray, List.set_cons_zero, List.set_cons_succ] at hK
        go_simp
        first | exact hK.out _ _ (Below.refl _ _) rfl | (have hk := hK.out _ _ (Below.refl _ _) rfl; revert hk; go_simp)
      case po5x2 =>
        intro w1 hb1 hd KK hK
        clear hd
        simp only [Act.put, List.setIfInBounds_toArray, List.set_cons_zero, List.set_cons_succ] at hK
        go_simp
        first | exact hK.out _ _ (Below.refl _ _) rfl | (have hk := hK.out _ _ (Below.refl _ _) rfl; revert hk; go_simp)
      case po5x3 =>
        intro w1 hb1 hd KK hK
        have d2 : x2 = .pointer (some ⟨w.heap.size, 0, none⟩) := hd 2 (by kernel_rfl)
        clear hd
        subst d2
        have hF := FK.out.next hb1
        have k0 := hF.c 0 0 rfl rfl
        simp only [Act.put, List.setIfInBounds_toArray, List.set_cons_zero, List.set_cons_succ] at hK
        go_simp
        first | exact hK.out _ _ (Below.refl _ _) rfl | (have hk := hK.out _ _ (Below.refl _ _) rfl; revert hk; go_simp)
      case po5x4 =>
        intro w1 hb1 hd KK hK
        clear hd
        simp only [Act.put, List.setIfInBounds_toArray, List.set_cons_zero, List.set_cons_succ] at hK
        go_simp
        first | exact hK.out _ _ (Below.refl _ _) rfl | (have hk := hK.out _ _ (Below.refl _ _) rfl; revert hk; go_simp)
      case po5x5 =>
        intro w1 hb1 hd KK hK
        clear hd
        simp only [Act.put, List.setIfInBounds_toArray, List.set_cons_zero, List.set_cons_succ] at hK
        go_simp
        first | exact hK.out _ _ (Below.refl _ _) rfl | (have hk := hK.out _ _ (Below.refl _ _) rfl; revert hk; go_simp)
      case po5x6 =>
        intro w1 hb1 hd KK hK
        have d4 : x4 = .slice (some ⟨gx, ox, none⟩) axs.length cx := hd 4 (by kernel_rfl)
        have d5 : x5 = .int .i64 (k : Int) := hd 5 (by kernel_rfl)
        clear hd
        subst d4
        subst d5
        simp only [Act.put, List.setIfInBounds_toArray, List.set_cons_zero, List.set_cons_succ] at hK
        go_simp
        first | exact hK.out _ _ (Below.refl _ _) rfl | (have hk := hK.out _ _ (Below.refl _ _) rfl; revert hk; go_simp)
      case po5x7 =>
        intro w1 hb1 hd KK hK
        have d6 : x6 = .pointer (some ⟨gx, ox + k, none⟩) := hd 6 (by kernel_rfl)
        clear hd
        subst d6
        have hc9 := ((FK.out.next hb1).bel.cell (p := ⟨gx, ox + k, none⟩) hlx).trans HXW.out
        simp only [Act.put, List.setIfInBounds_toArray, List.set_cons_zero, List.set_cons_succ] at hK
        go_simp
        first | exact hK.out _ _ (Below.refl _ _) rfl | (have hk := hK.out _ _ (Below.refl _ _) rfl; revert hk; go_simp)
      case po5x8 =>
        intro w1 hb1 hd KK hK
        have d3 : x3 = .slice (some ⟨ga, oa, none⟩) sh.length c := hd 3 (by kernel_rfl)
        have d7 : x7 = .int .i64 (m : Int) := hd 7 (by kernel_rfl)
        clear hd
        subst d3
        subst d7
        simp only [Act.put, List.setIfInBounds_toArray, List.set_cons_zero, List.set_cons_succ] at hK
        go_simp
        first | exact hK.out _ _ (Below.refl _ _) rfl | (have hk := hK.out _ _ (Below.refl _ _) rfl; revert hk; go_simp)
      case po5x9 =>
        intro w1 hb1 hd KK hK
        have d8 : x8 = .pointer (some ⟨ga, oa + m, none⟩) := hd 8 (by kernel_rfl)
        clear hd
        subst d8
        have hc9 := ((FK.out.next hb1).bel.cell (p := ⟨ga, oa + m, none⟩) hla).trans HCW.out
        simp only [Act.put, List.setIfInBounds_toArray, List.set_cons_zero, List.set_cons_succ] at hK
        go_simp
        first | exact hK.out _ _ (Below.refl _ _) rfl | (have hk := hK.out _ _ (Below.refl _ _) rfl; revert hk; go_simp)
      case po5x10 =>
        intro w1 hb1 hd KK hK
        have d9 : x9 = .int .i64 x := hd 9 (by kernel_rfl)
        clear hd
        subst d9
        simp only [Act.put, List.setIfInBounds_toArray, List.set_cons_zero, List.set_cons_succ] at hK
        go_simp
        first | exact hK.out _ _ ((Below.refl _ _).alloc (Nat.le_refl _) _) ⟨_, _, rfl, oneNew w1 x _⟩ | (have hk := hK.out _ _ ((Below.refl _ _).alloc (Nat.le_refl _) _) ⟨_, _, rfl, oneNew w1 x _⟩; revert hk; go_simp)
      case pfl5 => (intro f hf; cases hf)
      case pend5 =>
      intro w1 hb1 hR hD
      have d0 : x0 = .pointer (some ⟨Q, 0, none⟩) := hR 0 (by decide)
      have d1 : x1 = .slice a1 k c1 := hR 1 (by decide)
      have d2 : x2 = .pointer (some ⟨w.heap.size, 0, none⟩) := hR 2 (by decide)
      have d3 : x3 = .slice (some ⟨ga, oa, none⟩) sh.length c := hR 3 (by decide)
      have d4 : x4 = .slice (some ⟨gx, ox, none⟩) axs.length cx := hR 4 (by decide)
      have d5 : x5 = .int .i64 (k : Int) := hR 5 (by decide)
      have d6 : x6 = .pointer (some ⟨gx, ox + k, none⟩) := hR 6 (by decide)
      have d7 : x7 = .int .i64 (m : Int) := hR 7 (by decide)
      have d8 : x8 = .pointer (some ⟨ga, oa + m, none⟩) := hR 8 (by decide)
      have d9 : x9 = .int .i64 x := hR 9 (by decide)
      have d10 : (IsOne x) x10 w1 := hR 10 (by decide)
      clear hR hD
      subst d0
      subst d1
      subst d2
      subst d3
      subst d4
      subst d5
      subst d6
      subst d7
      subst d8
      subst d9
      obtain ⟨g10, c10, rfl, hO10⟩ := d10
      refine wpAny_ready (rs := [11]) (by kernel_rfl) (by simp) (AllReady.cons rfl (fun KK hK => ?_) AllReady.nil)
      have G3 := FK.out.next hb1
      refine stepApp1 23 3 infoInt Try.underlying23 w.heap.size (.slice a1 k c1) k (permL sh (axs.take k)) x c10 ⟨g10, 0, none⟩ _ _ rfl rfl rfl (G3.r 0 rfl) rfl hO10 (by omega) G3.hlo ?_
      intro g8 c8 w3 hown hgr hob
      rw [← HP1.out] at hown
      have G4 := G3.wroteO 0 rfl hgr hown (fun g hg => by rcases hob with h | h; exact .inl (h.trans hg); exact .inr (by injection hg with hg; simp only at hg; omega))
      simp only [List.set_cons_zero, List.set_cons_succ] at G4
      clear hown hgr hob G3
      refine hK _ _ ?_
      clear hK KK
      try simp only [putAll, Act.put, List.setIfInBounds_toArray, List.set_cons_zero, List.set_cons_succ]
      refine wpAny_ready (rs := [12]) (by kernel_rfl) (by simp) (AllReady.cons rfl (fun KK hK => ?_) AllReady.nil)
      go_simp
      refine hK _ _ ?_
      clear hK KK
      try simp only [putAll, Act.put, List.setIfInBounds_toArray, List.set_cons_zero, List.set_cons_succ]
      refine wpAny_ready (rs := [13]) (by kernel_rfl) (by simp) (AllReady.cons rfl (fun KK hK => ?_) AllReady.nil)
      have q0 := G4.c 2 0 rfl rfl
      have q1 := G4.f 2 0 rfl rfl
      go_simp
      refine hK _ _ ?_
      clear hK KK
      try simp only [putAll, Act.put, List.setIfInBounds_toArray, List.set_cons_zero, List.set_cons_succ]
      refine wpAny_done (by kernel_rfl) ?_ _
      have G5 := Lib.hid (G4.setC 2 0 rfl (by simp) (.slice (some ⟨g8, 0, none⟩) (k + 1) c8))
      simp only [List.set_cons_zero, List.set_cons_succ] at G5
      obtain ⟨V5, hV5⟩ : ∃ zz, w3.setCell ⟨Q, 0, none⟩ (.slice (some ⟨g8, 0, none⟩) (k + 1) c8) = zz := ⟨_, rfl⟩
      rw [hV5] at G5 ⊢
      clear hV5 G4 q0 q1 hb1 FK
      go_upto_region 6 with fail
      refine wp_region_parts2 (w := V5) 11 3 none [] [(fun u _ => u = .pointer (some ⟨Q, 1, none⟩)), (fun u _ => u = .slice a2 k c2), (fun u _ => u = .pointer (some ⟨w.heap.size, 1, none⟩)), (fun u _ => u = .slice (some ⟨gb, ob, none⟩) st.length d), (fun u _ => u = .slice (some ⟨gx, ox, none⟩) axs.length cx), (fun u _ => u = .int .i64 (k : Int)), (fun u _ => u = .pointer (some ⟨gx, ox + k, none⟩)), (fun u _ => u = .int .i64 (m : Int)), (fun u _ => u = .pointer (some ⟨gb, ob + m, none⟩)), (fun u _ => u = .int .i64 y), ((IsOne y))] [some 29, some 30, some 31, some 32, some 33, some 34, some 35, some 36, some 37, some 38, some 39, some 40, some 41, none] #[true, true, true, true, true, true, true, true, true, true, true, false, false, false] #[true, true, true, true, true, true, true, true, true, true, true, false, false, false] (by kernel_rfl) rfl (by kernel_rfl) (by kernel_rfl) rfl (by kernel_rfl) (by kernel_rfl) (.cons (carries_eq _) (.cons (carries_eq _) (.cons (carries_eq _) (.cons (carries_eq _) (.cons (carries_eq _) (.cons (carries_eq _) (.cons (carries_eq _) (.cons (carries_eq _) (.cons (carries_eq _) (.cons (carries_eq _) (.cons (isOne_carries _) .nil))))))))))) (fun vs b hvl hvb => ?_)
      obtain ⟨x0, x1, x2, x3, x4, x5, x6, x7, x8, x9, x10, x11, x12, x13, rfl⟩ : ∃ x0 x1 x2 x3 x4 x5 x6 x7 x8 x9 x10 x11 x12 x13, vs = [x0, x1, x2, x3, x4, x5, x6, x7, x8, x9, x10, x11, x12, x13] := lst14 hvl
      clear hvl
      simp only [putAll, Act.put, List.setIfInBounds_toArray, List.set_cons_zero, List.set_cons_succ] at hvb
      subst hvb
      refine ⟨(.snoc (.snoc (.snoc (.snoc (.snoc (.snoc (.snoc (.snoc (.snoc (.snoc (.snoc .zero (PartOb.intro (d := (some 29)) (r := fun u _ => u = .pointer (some ⟨Q, 1, none⟩)) rfl rfl rfl rfl ?po6x0)) (PartOb.intro (d := (some 30)) (r := fun u _ => u = .slice a2 k c2) rfl rfl rfl rfl ?po6x1)) (PartOb.intro (d := (some 31)) (r := fun u _ => u = .pointer (some ⟨w.heap.size, 1, none⟩)) rfl rfl rfl rfl ?po6x2)) (PartOb.intro (d := (some 32)) (r := fun u _ => u = .slice (some ⟨gb, ob, none⟩) st.length d) rfl rfl rfl rfl ?po6x3)) (PartOb.intro (d := (some 33)) (r := fun u _ => u = .slice (some ⟨gx, ox, none⟩) axs.length cx) rfl rfl rfl rfl ?po6x4)) (PartOb.intro (d := (some 34)) (r := fun u _ => u = .int .i64 (k : Int)) rfl rfl rfl rfl ?po6x5)) (PartOb.intro (d := (some 35)) (r := fun u _ => u = .pointer (some ⟨gx, ox + k, none⟩)) rfl rfl rfl rfl ?po6x6)) (PartOb.intro (d := (some 36)) (r := fun u _ => u = .int .i64 (m : Int)) rfl rfl rfl rfl ?po6x7)) (PartOb.intro (d := (some 37)) (r := fun u _ => u = .pointer (some ⟨gb, ob + m, none⟩)) rfl rfl rfl rfl ?po6x8)) (PartOb.intro (d := (some 38)) (r := fun u _ => u = .int .i64 y) rfl rfl rfl rfl ?po6x9)) (PartOb.intro (d := (some 39)) (r := (IsOne y)) rfl rfl rfl rfl ?po6x10)), ?pend6, ?pfl6⟩
      case po6x0 =>
        intro w1 hb1 hd KK hK
        clear hd
        simp only [Act.put, List.setIfInBounds_toArray, List.set_cons_zero, List.set_cons_succ] at hK
        go_simp
        first | exact hK.out _ _ (Below.refl _ _) rfl | (have hk := hK.out _ _ (Below.refl _ _) rfl; revert hk; go_simp)
      case po6x1 =>
        intro w1 hb1 hd KK hK
        have d0 : x0 = .pointer (some ⟨Q, 1, none⟩) := hd 0 (by kernel_rfl)
        clear hd
        subst d0
        have hF := G5.out.next hb1
        have k1 := hF.c 2 1 rfl rfl
        simp only [Act.put, List.setIfInBounds_toArray, List.set_cons_zero, List.set_cons_succ] at hK
        go_simp
        first | exact hK.out _ _ (Below.refl _ _) rfl | (have hk := hK.out _ _ (Below.refl _ _) rfl; revert hk; go_simp)
      case po6x2 =>
        intro w1 hb1 hd KK hK
        clear hd
        simp only [Act.put, List.setIfInBounds_toArray, List.set_cons_zero, List.set_cons_succ] at hK
        go_simp
        first | exact hK.out _ _ (Below.refl _ _) rfl | (have hk := hK.out _ _ (Below.refl _ _) rfl; revert hk; go_simp)
      case po6x3 =>
        intro w1 hb1 hd KK hK
        have d2 : x2 = .pointer (some ⟨w.heap.size, 1, none⟩) := hd 2 (by kernel_rfl)
        clear hd
        subst d2
        have hF := G5.out.next hb1
        have k1 := hF.c 0 1 rfl rfl
        simp only [Act.put, List.setIfInBounds_toArray, List.set_cons_zero, List.set_cons_succ] at hK
        go_simp
        first | exact hK.out _ _ (Below.refl _ _) rfl | (have hk := hK.out _ _ (Below.refl _ _) rfl; revert hk; go_simp)
      case po6x4 =>
        intro w1 hb1 hd KK hK
        clear hd
        simp only [Act.put, List.setIfInBounds_toArray, List.set_cons_zero, List.set_cons_succ] at hK
        go_simp
        first | exact hK.out _ _ (Below.refl _ _) rfl | (have hk := hK.out _ _ (Below.refl _ _) rfl; revert hk; go_simp)
      case po6x5 =>
        intro w1 hb1 hd KK hK
        clear hd
        simp only [Act.put, List.setIfInBounds_toArray, List.set_cons_zero, List.set_cons_succ] at hK
        go_simp
        first | exact hK.out _ _ (Below.refl _ _) rfl | (have hk := hK.out _ _ (Below.refl _ _) rfl; revert hk; go_simp)
      case po6x6 =>
        intro w1 hb1 hd KK hK
        have d4 : x4 = .slice (some ⟨gx, ox, none⟩) axs.length cx := hd 4 (by kernel_rfl)
        have d5 : x5 = .int .i64 (k : Int) := hd 5 (by kernel_rfl)
        clear hd
        subst d4
        subst d5
        simp only [Act.put, List.setIfInBounds_toArray, List.set_cons_zero, List.set_cons_succ] at hK
        go_simp
        first | exact hK.out _ _ (Below.refl _ _) rfl | (have hk := hK.out _ _ (Below.refl _ _) rfl; revert hk; go_simp)
      case po6x7 =>
        intro w1 hb1 hd KK hK
        have d6 : x6 = .pointer (some ⟨gx, ox + k, none⟩) := hd 6 (by kernel_rfl)
        clear hd
        subst d6
        have hc9 := ((G5.out.next hb1).bel.cell (p := ⟨gx, ox + k, none⟩) hlx).trans HXW.out
        simp only [Act.put, List.setIfInBounds_toArray, List.set_cons_zero, List.set_cons_succ] at hK
        go_simp
        first | exact hK.out _ _ (Below.refl _ _) rfl | (have hk := hK.out _ _ (Below.refl _ _) rfl; revert hk; go_simp)
      case po6x8 =>
        intro w1 hb1 hd KK hK
        have d3 : x3 = .slice (some ⟨gb, ob, none⟩) st.length d := hd 3 (by kernel_rfl)
        have d7 : x7 = .int .i64 (m : Int) := hd 7 (by kernel_rfl)
        clear hd
        subst d3
        subst d7
        simp only [Act.put, List.setIfInBounds_toArray, List.set_cons_zero, List.set_cons_succ] at hK
        go_simp
        first | exact hK.out _ _ (Below.refl _ _) rfl | (have hk := hK.out _ _ (Below.refl _ _) rfl; revert hk; go_simp)
      case po6x9 =>
        intro w1 hb1 hd KK hK
        have d8 : x8 = .pointer (some ⟨gb, ob + m, none⟩) := hd 8 (by kernel_rfl)
        clear hd
        subst d8
        have hc9 := ((G5.out.next hb1).bel.cell (p := ⟨gb, ob + m, none⟩) hlb).trans HDW.out
        simp only [Act.put, List.setIfInBounds_toArray, List.set_cons_zero, List.set_cons_succ] at hK
        go_simp
        first | exact hK.out _ _ (Below.refl _ _) rfl | (have hk := hK.out _ _ (Below.refl _ _) rfl; revert hk; go_simp)
      case po6x10 =>
        intro w1 hb1 hd KK hK
        have d9 : x9 = .int .i64 y := hd 9 (by kernel_rfl)
        clear hd
        subst d9
        simp only [Act.put, List.setIfInBounds_toArray, List.set_cons_zero, List.set_cons_succ] at hK
        go_simp
        first | exact hK.out _ _ ((Below.refl _ _).alloc (Nat.le_refl _) _) ⟨_, _, rfl, oneNew w1 y _⟩ | (have hk := hK.out _ _ ((Below.refl _ _).alloc (Nat.le_refl _) _) ⟨_, _, rfl, oneNew w1 y _⟩; revert hk; go_simp)
      case pfl6 => (intro f hf; cases hf)
      case pend6 =>
      intro w1 hb1 hR hD
      have d0 : x0 = .pointer (some ⟨Q, 1, none⟩) := hR 0 (by decide)
      have d1 : x1 = .slice a2 k c2 := hR 1 (by decide)
      have d2 : x2 = .pointer (some ⟨w.heap.size, 1, none⟩) := hR 2 (by decide)
      have d3 : x3 = .slice (some ⟨gb, ob, none⟩) st.length d := hR 3 (by decide)
      have d4 : x4 = .slice (some ⟨gx, ox, none⟩) axs.length cx := hR 4 (by decide)
      have d5 : x5 = .int .i64 (k : Int) := hR 5 (by decide)
      have d6 : x6 = .pointer (some ⟨gx, ox + k, none⟩) := hR 6 (by decide)
      have d7 : x7 = .int .i64 (m : Int) := hR 7 (by decide)
      have d8 : x8 = .pointer (some ⟨gb, ob + m, none⟩) := hR 8 (by decide)
      have d9 : x9 = .int .i64 y := hR 9 (by decide)
      have d10 : (IsOne y) x10 w1 := hR 10 (by decide)
      clear hR hD
      subst d0
      subst d1
      subst d2
      subst d3
      subst d4
      subst d5
      subst d6
      subst d7
      subst d8
      subst d9
      obtain ⟨g10, c10, rfl, hO10⟩ := d10
      refine wpAny_ready (rs := [11]) (by kernel_rfl) (by simp) (AllReady.cons rfl (fun KK hK => ?_) AllReady.nil)
      have G3 := G5.out.next hb1
      refine stepApp1 23 3 infoInt Try.underlying23 w.heap.size (.slice a2 k c2) k (permL st (axs.take k)) y c10 ⟨g10, 0, none⟩ _ _ rfl rfl rfl (G3.r 1 rfl) rfl hO10 (by omega) G3.hlo ?_
      intro g17 c17 w3 hown hgr hob
      rw [← HP2.out] at hown
      have G4 := G3.wroteO 1 rfl hgr hown (fun g hg => by rcases hob with h | h; exact .inl (h.trans hg); exact .inr (by injection hg with hg; simp only at hg; omega))
      simp only [List.set_cons_zero, List.set_cons_succ] at G4
      clear hown hgr hob G3
      refine hK _ _ ?_
      clear hK KK
      try simp only [putAll, Act.put, List.setIfInBounds_toArray, List.set_cons_zero, List.set_cons_succ]
      refine wpAny_ready (rs := [12]) (by kernel_rfl) (by simp) (AllReady.cons rfl (fun KK hK => ?_) AllReady.nil)
      go_simp
      refine hK _ _ ?_
      clear hK KK
      try simp only [putAll, Act.put, List.setIfInBounds_toArray, List.set_cons_zero, List.set_cons_succ]
      refine wpAny_ready (rs := [13]) (by kernel_rfl) (by simp) (AllReady.cons rfl (fun KK hK => ?_) AllReady.nil)
      have q0 := G4.c 2 1 rfl rfl
      have q1 := G4.f 2 1 rfl rfl
      go_simp
      refine hK _ _ ?_
      clear hK KK
      try simp only [putAll, Act.put, List.setIfInBounds_toArray, List.set_cons_zero, List.set_cons_succ]
      refine wpAny_done (by kernel_rfl) ?_ _
      have G6 := Lib.hid (G4.setC 2 1 rfl (by simp) (.slice (some ⟨g17, 0, none⟩) (k + 1) c17))
      simp only [List.set_cons_zero, List.set_cons_succ] at G6
      obtain ⟨V6, hV6⟩ : ∃ zz, w3.setCell ⟨Q, 1, none⟩ (.slice (some ⟨g17, 0, none⟩) (k + 1) c17) = zz := ⟨_, rfl⟩
      rw [hV6] at G6 ⊢
      clear hV6 G4 q0 q1 hb1 G5
      go_wp2
      go_roundw
      case rel => exact ⟨k + 1, by omega, by go_num, some ⟨g8, 0, none⟩, c8, some ⟨g17, 0, none⟩, c17, G6⟩
      case measure => simp [intOf]; omega
    · obtain rfl : k = axs.length := by omega
      have z1_0 := FK.out.c 1 0 rfl rfl
      have z1_1 := FK.out.c 1 1 rfl rfl
      have z1_2 := FK.out.c 1 2 rfl rfl
      have z2_0 := FK.out.c 2 0 rfl rfl
      have z2_1 := FK.out.c 2 1 rfl rfl
      have z2_2 := FK.out.c 2 2 rfl rfl
      have zf1_0 := FK.out.f 1 0 rfl rfl
      have zf1_1 := FK.out.f 1 1 rfl rfl
      have zf1_2 := FK.out.f 1 2 rfl rfl
      go_wp2
      have FZ := FK.out.set 1 rfl (by simp) [.slice a1 axs.length c1, .slice a2 axs.length c2, .int .i64 off] rfl
      simp only [setL, Nat.reduceAdd, List.set_cons_zero, List.set_cons_succ, List.take_length] at FZ
      have y0 := FZ.c 1 0 rfl rfl
      have y1 := FZ.c 1 1 rfl rfl
      have y2 := FZ.c 1 2 rfl rfl
      refine bodyPost_ret (v := .agg #[.slice a1 axs.length c1, .slice a2 axs.length c2, .int .i64 off]) ?_ rfl ⟨a1, c1, a2, c2, by rw [permL_len, permL_len], by rw [permL_len, permL_len]; exact FZ.rows⟩
      rw [results_cV rfl]
      go_simp
end Go.Proofs.Ytnafbgkfhojamaa
