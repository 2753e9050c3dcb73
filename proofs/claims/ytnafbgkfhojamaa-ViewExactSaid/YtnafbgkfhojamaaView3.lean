/- Walks: all places of a view, in order. -/
import Derived.Test.YtnafbgkfhojamaaView2
import Derived.Deep.CutBlock
import Derived.Sort.CutIn
import Derived.Shelf.Abstract
set_option linter.unusedVariables false
set_option linter.unusedSimpArgs false
namespace Go.Proofs.Ytnafbgkfhojamaa
open Go.RowKit Go.Rt
attribute [local go_sem] Oper.semAt_some
/-- The sum of the first j steps. -/
def dotK (sh st : List Int) (k j : Nat) : Int := dotI ((standsI sh (k : Int)).take j) (st.take j)
theorem dotK_bound {sh st : List Int} {off n : Int} (hv : viewB sh st off n = true) (k j : Nat) : 0 ≤ dotK sh st k j ∧ off + dotK sh st k j < n := by
  obtain ⟨h1, h2, h3, h4, h5, h6, h7⟩ := viewB_iff.1 hv
  have hD := goodB_dims h1
  have h8 := withinB_take _ _ j (standsI_within sh (k : Int) hD)
  have h9 := dotI_top (sh.take j) ((standsI sh (k : Int)).take j) (st.take j) h8 (fun x hx => (h6 x (List.mem_of_mem_take hx)).1)
  have h10 := topV_take_le sh st j hD (fun x hx => (h6 x hx).1)
  unfold dotK
  omega
theorem dotK_succ {sh st : List Int} (hl : st.length = sh.length) (k j : Nat) (hj : j < (standsI sh (k : Int)).length) (hj2 : j < st.length) : dotK sh st k (j + 1) = dotK sh st k j + (standsI sh (k : Int))[j] * st[j] :=
  dotI_take_succ _ _ j hj (by rw [standsI_length]; exact hl)
theorem dotK_all {sh st : List Int} (hl : st.length = sh.length) (off : Int) (k : Nat) : off + dotK sh st k sh.length = atV sh st off k := by
  unfold dotK atV
  rw [List.take_of_length_le (by rw [standsI_length]; exact Nat.le_refl _), List.take_of_length_le (by omega)]

set_option maxRecDepth 100000 in
set_option maxHeartbeats 2000000 in
/-- The iterator of all places, called at yield of loop l: rounds 0 to N - 1, or a round says 'no more'. -/
theorem placesIter (n : Nat) (hn : 9 ≤ n) (l B N S : Nat) (a b : Option Addr) (c d : Nat) (sh st : List Int) (off wN : Int) (W : World) (hS : W.heap.size = S) (J : Nat → World → Prop) (Jx : World → Prop) (hv : viewB sh st off wN = true) (hN : prodI sh = (N : Int))
    (hJ : ∀ k W1 W2, J k W1 → Below S W1 W2 → J k W2) (hJx : ∀ W1 W2, Jx W1 → Below S W1 W2 → Jx W2) (hJs : ∀ W1, Jx W1 → S ≤ W1.heap.size)
    (hJB : ∀ k W1, J k W1 → S ≤ W1.heap.size ∧ BoxL W1 B [.slice a sh.length c, .slice b st.length d, .int .i64 off] ∧ Ints .i64 W1 S a sh ∧ Ints .i64 W1 S b st)
    (hY : ∀ k W1, k < N → J k W1 → YieldAt Fence.wide (n - 1 - 1 - 1) Try.prog l #[.int .i64 (k : Int), .int .i64 (atV sh st off k)] W1 fun e W' => Kept S W1 W' ∧ ((e = .returned (.bool true) ∧ J (k + 1) W') ∨ (e = .returned (.bool false) ∧ Jx W')))
    (h0 : J 0 W) :
    CallsIn Fence.wide n Try.prog 68 #[.func (.yield l) #[] #[], .pointer (some ⟨B, 0, none⟩)] W fun e W' => (∃ v, e = .returned v) ∧ (J N W' ∨ Jx W') := by
  have hv0 := viewB_iff.1 hv
  have hgd := hv0.1
  have h2 := hv0.2.1
  have hoff := hv0.2.2.1
  have hwN := hv0.2.2.2.1
  clear hv0
  have hP := goodB_prod hgd
  have h4 := (goodB_iff.1 hgd).1
  have HV := Lib.hid hv
  have HG := Lib.hid hgd
  have HN := Lib.hid hN
  have HJ := Lib.hid hJ
  have HJX := Lib.hid hJx
  have HJS := Lib.hid hJs
  have HJB := Lib.hid hJB
  have HY := Lib.hid hY
  have H0 := Lib.hid h0
  have HL2 := Lib.hid h2
  obtain ⟨_, hb0, hia, hib⟩ := hJB 0 W h0
  have hBW : B < S := by rw [← hS]; exact hb0.lt (by simp)
  have HSH := Lib.hid hia.wf
  have HST := Lib.hid hib
  clear hP hN hgd hv h0 hJ hJB hY hib hJx hJs h2
  refine callsIn_of_wp_marks Try.func68 rfl trivial ?_ rfl
  simp only [Try.ntmps68, List.size_toArray, List.length_cons, List.length_nil, Nat.reduceAdd, Nat.reduceSub, Array.replicate_succ, Array.replicate_zero, List.push_toArray, List.append_toArray, List.nil_append, List.cons_append]
  refine wpIn_wide.2 ?_
  have F1 := Lib.hid ((Fr.start (w := W) (I := []) (by simp)).box1 (b := S) hS [.func (.yield l) #[] #[]] 84)
  simp only [List.nil_append, hS] at F1
  have HBW : Hid (Below S W (W.alloc (.cells #[.func (.yield l) #[] #[]] 84))) := Lib.hid ((Below.refl _ _).alloc (by omega) _)
  go_upto_region 1 with fail
  obtain ⟨W1, hW1⟩ : ∃ W1, (W.alloc (.cells #[.func (.yield l) #[] #[]] 84)) = W1 := ⟨_, rfl⟩
  have hW1s : W1.heap.size = S + 1 := by rw [← hW1]; simp [hS]
  rw [hW1] at F1 HBW ⊢
  clear hW1
  have hb1 := hb0.below HBW.out hBW
  have k0 := hb1.cell 0 _ rfl
  have hia1 := (hia.below HBW.out (Nat.le_refl _)).mono (show S ≤ W1.heap.size by omega)
  have hall := all_any a c sh W1 hia1 (by omega)
  rw [hW1s] at hall
  have HALL := Lib.hid hall
  clear hb0 hia hia1 hall hb1
  go_upto_block 0 with (go_at_call 69; refine HALL.out.mono ?_; rintro e w2 ⟨a2, c2, rfl, hfr⟩; rw [← hW1s] at hfr; have F2 := Lib.hid (F1.out.join2 hfr).re; simp only [hW1s, List.nil_append, List.cons_append, List.append_nil] at F2; have HB2 := Lib.hid (HBW.out.trans (hfr.bel.mono (by omega))); clear hfr k0)
  clear HALL
  obtain ⟨D, hD⟩ : ∃ D, w2.heap.size = D := ⟨_, rfl⟩
  have hSD : S + 2 ≤ D := by have := (F2.out.bl 1 rfl).2; omega
  have HJ0 := Lib.hid (HJ.out 0 _ _ H0.out HB2.out)
  clear F1 HBW HB2 H0
  have h1n : 1 ≤ n := by omega
  skip
  go_wp2
  refine wpIn_wide.1 (wpIn_rangeFunc_any (n := n) rfl h1n (gf := 73) (lb := #[.pointer (some ⟨S + 1, 0, none⟩)]) rfl trivial (enters_of Try.func73 (by kernel_rfl) rfl) D hD
    (fun W2 => J N W2 ∧ W2.heap[D]? = some (.deferred (some []))) (fun cc W2 => cc = .ret ∧ Jx W2 ∧ W2.heap[D]? = some (.deferred (some []))) ?hcall ?hdone ?hstop)
  case hcall =>
    intro fn R hfn hR
    have HR := Lib.hid hR
    clear hR
    have F3 := Lib.hid ((F2.out.recM hD (.deferred (some [])) rfl).recM (b := D + 1) (by simp [hD]) (.loop (R .ready none)) rfl).re
    have HB3 : Hid (Below S w2 ((w2.alloc (.deferred (some []))).alloc (.loop (R .ready none)))) := Lib.hid (((Below.refl _ _).alloc (by omega) _).alloc (by simp; omega) _)
    have hW3s : ((w2.alloc (.deferred (some []))).alloc (.loop (R .ready none))).heap.size = D + 2 := by simp [hD]
    simp only [List.nil_append, List.cons_append] at F3
    obtain ⟨W3, hW3⟩ : ∃ W3, ((w2.alloc (.deferred (some []))).alloc (.loop (R .ready none))) = W3 := ⟨_, rfl⟩
    rw [hW3] at F3 HB3 hW3s ⊢
    have HJ3 := Lib.hid (HJ.out 0 _ _ HJ0.out HB3.out)
    clear hW3 HJ0 F2
    refine (allIter (n - 1) (by omega) (D + 1) (S + 1) N a2 c2 sh W3 (fun k W' => J k W' ∧ Fr S W' W' [(S, [.func (.yield l) #[] #[]]), (S + 1, [.slice a2 sh.length c2])] [] [⟨3, .slice a2 sh.length c2, sh.length, sh.map (Value.int .i64)⟩] [(D, .deferred (some [])), (D + 1, .loop (R .ready none))]) (fun W' => Jx W' ∧ Fr S W' W' [(S, [.func (.yield l) #[] #[]]), (S + 1, [.slice a2 sh.length c2])] [] [⟨3, .slice a2 sh.length c2, sh.length, sh.map (Value.int .i64)⟩] [(D, .deferred (some [])), (D + 1, .loop (R .done (some .ret)))]) HG.out HN.out ?hJ ?hJB ?hY ⟨HJ3.out, F3.out⟩).mono ?post
    case hJ =>
      rintro k V1 V2 ⟨j1, j2⟩ hb
      exact ⟨HJ.out k _ _ j1 (hb.mono (HJB.out k _ j1).1), j2.keptS (Kept.of_below hb)⟩
    case hJB =>
      rintro k V1 ⟨j1, j2⟩
      exact ⟨j2.c 1 0 rfl rfl, j2.li 0 (k := .i64) (xs := sh) rfl HSH.out⟩
    case post =>
      rintro e V ⟨hv, ⟨j1, j2⟩ | ⟨j1, j2⟩⟩
      · exact ⟨hv, .inl ⟨⟨j1, j2.m 0 rfl⟩, j2.m 1 rfl⟩⟩
      · exact ⟨hv, .inr ⟨.ret, ⟨rfl, j1, j2.m 0 rfl⟩, j2.m 1 rfl⟩⟩
    case hY =>
      rintro k a1 c1 V1 hk ⟨j1, j2⟩ hI1
      have hsz1 := (HJB.out k _ j1).1
      refine yieldAt_roundR hfn HR.out (j2.m 1 rfl) rfl ?_
      have hbl := (j2.bl 0 rfl)
      have J2 := Lib.hid j2
      have HB4 : Hid (Below S V1 (V1.putObj (D + 1) (.loop (R .busy none)))) := Lib.hid (below_putObj S V1 (D + 1) _ (by omega) hsz1)
      have J1 := Lib.hid (HJ.out k _ _ j1 HB4.out)
      have HI := Lib.hid (hI1.putObj (j2.m 1 rfl) rfl (.loop (R .busy none)))
      have F4 := Lib.hid (j2.putM 1 rfl (.loop (R .busy none)) rfl).re
      simp only [List.set_cons_zero, List.set_cons_succ] at F4
      have hszV : (V1.putObj (D + 1) (.loop (R .busy none))).heap.size = V1.heap.size := by simp
      clear hI1 j1 j2 hfn HR
      gi_wp2
      refine ⟨J2.out.m 1 rfl, ?_⟩
      obtain ⟨V, hV⟩ : ∃ V, V1.putObj (D + 1) (.loop (R .busy none)) = V := ⟨_, rfl⟩
      rw [hV] at J1 HI F4 HB4 hszV ⊢
      rw [← hszV] at HI
      clear hV HB4 J2
      obtain ⟨hsV, hbx, _, hst⟩ := HJB.out k _ J1.out
      have v0 := hbx.cell 0 _ rfl
      have v1 := hbx.cell 1 _ rfl
      have v2 := hbx.cell 2 _ rfl
      have y0 := F4.out.c 0 0 rfl rfl
      have HST2 := Lib.hid hst
      have HYY := Lib.hid (HY.out k V hk J1.out)
      have hsl := standsI_length sh (k : Int)
      have HSL := Lib.hid hsl
      clear hbx hst hsl
      (repeat gi_step)
      gi_loopw [5, 17] (fun s i wr => ∃ j : Nat, j ≤ sh.length ∧ i = .int .i64 j ∧ s = .int .i64 (off + dotK sh st k j) ∧ wr = V) (fun _ i _ => sh.length - (intOf i).toNat)
      case atStart => exact ⟨0, Nat.zero_le _, rfl, by simp [dotK, dotI], rfl⟩
      case round =>
        obtain ⟨j, hj, rfl, rfl, rfl⟩ := hrel
        by_cases hlt : j < sh.length
        · have hlt1 : j < (standsI sh (k : Int)).length := by have := HSL.out; omega
          have hlt2 : j < st.length := by have := HL2.out; omega
          obtain ⟨_, _, hcA⟩ := HI.out
          obtain ⟨_, _, hcB⟩ := HST2.out
          obtain ⟨ba, oa, rfl, hla, hca⟩ := hcA j hlt1
          obtain ⟨bs, os, rfl, hlb, hcb⟩ := hcB j hlt2
          rw [List.getElem?_eq_getElem hlt1] at hca
          rw [List.getElem?_eq_getElem hlt2] at hcb
          simp only [Option.getD_some] at hca hcb
          have hb1 := dotK_bound HV.out k j
          have hb2 := dotK_bound HV.out k (j + 1)
          have HD := Lib.hid (dotK_succ HL2.out k j hlt1 hlt2)
          rw [HD.out] at hb2
          have hm1 := stands_mem (n := (k : Int)) (goodB_dims HG.out) _ (List.getElem_mem hlt1)
          have hm2 := (viewB_iff.1 HV.out).2.2.2.2.2.1 _ (List.getElem_mem hlt2)
          obtain ⟨x, hx⟩ : ∃ x, (standsI sh (k : Int))[j] = x := ⟨_, rfl⟩
          obtain ⟨y, hy⟩ : ∃ y, st[j] = y := ⟨_, rfl⟩
          obtain ⟨T, hT⟩ : ∃ T, dotK sh st k j = T := ⟨_, rfl⟩
          rw [hx] at hca HD hm1 hb2
          rw [hy] at hcb HD hm2 hb2
          rw [hT] at HD hb1 hb2 ⊢
          have hp1 : 0 ≤ x * y := Int.mul_nonneg hm1.1 hm2.1
          have hp2 : x * y ≤ 4096 * 65536 := Int.mul_le_mul (by omega) hm2.2 hm2.1 (by omega)
          have hwr1 : IntKind.i64.wrap (x * y) = x * y := IntWalk.i64_in _ (by omega)
          have hwr2 : IntKind.i64.wrap (off + T + x * y) = off + T + x * y := IntWalk.i64_in _ (by omega)
          have HX := Lib.hid (show off + (T + x * y) = off + T + x * y by omega)
          clear hx hy hT hcA hcB hb1 hb2 hm1 hm2 hp1 hp2
          gi_wp2
          clear hwr1 hwr2
          go_roundw
          case rel => exact ⟨j + 1, by omega, by go_num, by rw [HD.out, HX.out], trivial⟩
          case measure => simp [intOf]; omega
        · obtain rfl : j = sh.length := by omega
          rw [dotK_all HL2.out]
          obtain ⟨fn2, tmps2, assign2, body2, hy, hRR⟩ := HYY.out
          have HRR := Lib.hid hRR
          clear hRR HYY
          (repeat gi_step)
          refine ⟨fun _ => by omega, RoundIn.mono (F := Fence.wide.inRound (D + 1)) HRR.out ?_⟩
          rintro e V3 ⟨hk3, ⟨rfl, hj3⟩ | ⟨rfl, hj3⟩⟩
          · skip
            have F5 := Lib.hid (F4.out.keptS hk3)
            have HJ3 := Lib.hid hj3
            clear hk3 hj3 hy F4
            gi_wp2
            refine ⟨F5.out.m 1 rfl, .inl ⟨trivial, HJ.out _ _ _ HJ3.out (below_putObj S _ _ _ (by omega) (HJB.out _ _ HJ3.out).1), ?_⟩⟩
            have F6 := (F5.out.putM 1 rfl (.loop (R .ready none)) rfl).re
            simp only [List.set_cons_zero, List.set_cons_succ] at F6
            exact F6
          · skip
            have F5 := Lib.hid (F4.out.keptS hk3)
            have HJ3 := Lib.hid hj3
            clear hk3 hj3 hy F4
            gi_wp2
            (try simp only [Exit.noGoto, Exit.inBlock, Exit.then])
            refine ⟨F5.out.m 1 rfl, .inr ⟨trivial, HJX.out _ _ HJ3.out (below_putObj S _ _ _ (by omega) (HJS.out _ HJ3.out)), ?_⟩⟩
            have F6 := (F5.out.putM 1 rfl (.loop (R .done (some .ret))) rfl).re
            simp only [List.set_cons_zero, List.set_cons_succ] at F6
            exact F6
  case hdone =>
    rintro V o ho ⟨j1, hd⟩
    have hs := (HJB.out _ _ j1).1
    have j2 := HJ.out _ _ _ j1 (below_putObj S V (D + 1) o (by omega) hs)
    have hs2 := (HJB.out _ _ j2).1
    have hd2 : (V.putObj (D + 1) o).heap[D]? = some (.deferred (some [])) := ((grownBy_putObj' V (D + 1) o).block D (Array.getElem?_eq_some_iff.1 hd).1 (by simp)).trans hd
    have j3 := HJ.out _ _ _ j2 (below_putObj S _ D (.deferred none) (by omega) hs2)
    have HD2 := Lib.hid hd2
    have J3 := Lib.hid j3
    clear j1 j2 j3 hd hd2 hs hs2
    go_wp2
    refine ⟨by simp, .inl ⟨_, _, rfl, run_takeDeferred HD2.out, ?_⟩⟩
    exact ⟨_, results_none rfl _ _ _, ⟨_, rfl⟩, .inl J3.out⟩
  case hstop =>
    rintro cc V o ho ⟨rfl, j1, hd⟩
    have hs := HJS.out _ j1
    have j2 := HJX.out _ _ j1 (below_putObj S V (D + 1) o (by omega) hs)
    have hs2 := HJS.out _ j2
    have hd2 : (V.putObj (D + 1) o).heap[D]? = some (.deferred (some [])) := ((grownBy_putObj' V (D + 1) o).block D (Array.getElem?_eq_some_iff.1 hd).1 (by simp)).trans hd
    have j3 := HJX.out _ _ j2 (below_putObj S _ D (.deferred none) (by omega) hs2)
    have HD2 := Lib.hid hd2
    have J3 := Lib.hid j3
    clear j1 j2 j3 hd hd2 hs hs2
    refine wpIn_wide.2 ?_
    go_wp2
    refine ⟨by simp, .inl ⟨_, _, rfl, run_takeDeferred HD2.out, ?_⟩⟩
    exact ⟨_, results_none rfl _ _ _, ⟨_, rfl⟩, .inr J3.out⟩
end Go.Proofs.Ytnafbgkfhojamaa
