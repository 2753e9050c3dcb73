/- Walks of the references' whole numbers: the decimal. -/
import Derived.Test.YtlbmpdidmckgkaaTxt
import Derived.Test.YtlbmpdidmckgkaaNDivP
import Derived.Deep.LoopGhost
import Derived.BigQuiet
import Derived.WalkMore
import Derived.Deep.RegionHeld3
import Derived.Deep.RegionWith
import Derived.BigRegion
import Derived.Deep.Cut
import Derived.Deep.CutBlock
import Derived.Deep.CutRange
set_option linter.unusedVariables false
set_option linter.unusedSimpArgs false
namespace Go.Proofs.Ytlbmpdidmckgkaa
open Go.RowKit Go.Rt

theorem dec_parts (r M j : Nat) : (r + 10 ^ (j + 1) * M) % 10 = r % 10 ∧ (r + 10 ^ (j + 1) * M) / 10 = r / 10 + 10 ^ j * M := by
  have e : 10 ^ (j + 1) * M = 10 * (10 ^ j * M) := by rw [Nat.pow_succ, Nat.mul_comm (10 ^ j), Nat.mul_assoc]
  rw [e]
  omega
theorem dec_len {L : Nat} {V M m K : Nat} (h : V + 10 ^ L * M = m) (hM : 0 < M) (hm : m < 2 ^ K) : L < K := by
  refine Classical.byContradiction fun hc => ?_
  have h1 : 2 ^ K ≤ 2 ^ L := Nat.pow_le_pow_right (by decide) (by omega)
  have h2 : 2 ^ L ≤ 10 ^ L := Nat.pow_le_pow_left (by decide) L
  have h3 : 10 ^ L ≤ 10 ^ L * M := Nat.le_mul_of_pos_right _ hM
  omega
theorem map48_getD (D : List Int) (i : Nat) (h : i < D.length) : (D.map (fun d => 48 + d))[i]?.getD 0 = 48 + D[i]?.getD 0 := by
  simp [h]
theorem all_zero {D : List Int} (h : ∀ i : Nat, D[i]?.getD 0 = 0) : valB 10 D = 0 := by
  have := valB_drop_zero (B := 10) D 0 (fun i _ => h i)
  rw [← this]
  rfl
theorem drop_rev (T : List Int) (i : Nat) (h : i < T.length) : (T.drop i).reverse = (T.drop (i + 1)).reverse ++ [T[i]?.getD 0] := by
  rw [List.drop_eq_getElem_cons h, List.reverse_cons, List.getElem?_eq_getElem h]
  rfl

set_option maxHeartbeats 8000000 in
set_option maxRecDepth 100000 in
theorem ntext_any (a : Option Addr) (c m K : Nat) (w : World) (h : NAt w w.heap.size a c m) (hK : K ≤ 1000000) (hm : m < 2 ^ K) :
    Calls Try.prog 68 #[.slice a (dig 18446744073709551616 m).length c] w fun e w' => e = .returned (txt (txtN m)) ∧ Below w.heap.size w w' := by
  have hH := fun w' (hb : Below w.heap.size w w') => Lib.hid (halves_any a c m w' (h.next hb) (by have := dig_len_shift m K hm; omega))
  have hl0 := dig_len_zero (B := 4294967296) (m := m) (by decide)
  by_cases h0 : m = 0
  · as_aux_lemma =>
      have e0 : (((dig 4294967296 m).length : Int) == 0) = true := by have := hl0.2 h0; simp [this]
      have HT := Lib.hid (show txtN m = [48] by unfold txtN; rw [if_pos h0])
      clear hl0 h0 h hm
      go_enter Try.func68, Try.ntmps68
      go_wp2_with (go_at_call 74; refine (hH w (Below.refl _ _)).out.mono ?_; rintro e w1 ⟨ax, cx, rfl, hX, hb1⟩; have HX1 := Lib.hid hX; have HB1 := Lib.hid hb1; clear hX hb1)
      go_ret
      exact ⟨by rw [HT.out]; rfl, HB1.out⟩
  · have e0 : (((dig 4294967296 m).length : Int) == 0) = false := beq_eq_false_iff_ne.2 (fun e => h0 (hl0.1 (by omega)))
    have HM0 := Lib.hid h0
    have HMK := Lib.hid hm
    clear hl0 h0 h hm
    go_enter Try.func68, Try.ntmps68
    go_wp2_with (go_at_call 74; refine (hH w (Below.refl _ _)).out.mono ?_; rintro e w1 ⟨ax, cx, rfl, hX, hb1⟩; have HX1 := Lib.hid hX; have HB1 := Lib.hid hb1; clear hX hb1)
    go_loopg [3, 4] m (fun gk xv dv wr => ∃ (D : List Int) (aq : Option Addr) (cq : Nat), xv = .slice aq (dig 4294967296 gk).length cq ∧ Hid (HAt wr wr.heap.size aq cq gk) ∧ Hid (Rng 10 D) ∧ Hid (valB 10 D + 10 ^ D.length * gk = m) ∧ Hid (wr.ownsRow w1.heap.size 5 1 dv (D).length (((D).map (fun d => 48 + d)).map (Value.int .u8))) ∧ Hid (Off dv aq (dig 4294967296 gk).length) ∧ Hid (D.length ≤ K + 9) ∧ Hid (Below w1.heap.size w1 wr))
    case atStart => exact ⟨[], ax, cx, rfl, HX1, Lib.hid (fun x hx => by cases hx), Lib.hid (by simp [valB]), Lib.hid (World.ownsRow_nil _ _ _ _), Lib.hid (.inr (fun x hx he => by cases he)), Lib.hid (Nat.zero_le _), Lib.hid (Below.refl _ _)⟩
    case round =>
      clear HX1
      obtain ⟨D, aq, cq, rfl, HA, HR, HV, HO, HOF, HL, HB⟩ := hrel
      obtain ⟨wo, rfl⟩ : ∃ wo : World, wo = wr := ⟨_, rfl⟩
      by_cases hg0 : gk = 0
      · subst hg0
        have hv := HV.out
        rw [Nat.mul_zero, Nat.add_zero] at hv
        have HV0 := Lib.hid hv
        have hl0 : ¬ (0 : Int) < ((dig 4294967296 0).length : Int) := by rw [dig_zero]; decide
        obtain ⟨ad, cd, hdv, hsh⟩ := own_shape HO.out
        have hDl : D.length ≠ 0 := by intro e; have h1 := List.length_eq_zero_iff.1 e; rw [h1] at hv; exact HM0.out hv.symm
        obtain ⟨g, rfl, hg1, hg2⟩ := hsh.resolve_left hDl
        subst hdv
        clear hv HV HA HOF
        have HDL := Lib.hid hDl
        have hDb : D.length ≤ 1000009 := by have := HL.out; omega
        go_wp2
        go_loopw [8] (fun iv wr => ∃ k : Nat, k ≤ D.length ∧ 1 ≤ k ∧ iv = .int .i64 k ∧ Hid (∀ i, k ≤ i → D[i]?.getD 0 = 0) ∧ wr = wo) (fun iv _ => (intOf iv).toNat)
        case atStart => exact ⟨D.length, Nat.le_refl _, Nat.one_le_iff_ne_zero.2 hDl, rfl, Lib.hid (fun i hi => by rw [List.getElem?_eq_none hi]; rfl), rfl⟩
        case round =>
          obtain ⟨k, hk, hk1, rfl, HZ, rfl⟩ := hrel
          obtain ⟨wo, rfl⟩ : ∃ wo : World, wo = wr := ⟨_, rfl⟩
          obtain ⟨j, rfl⟩ : ∃ j, k = j + 1 := ⟨k - 1, by omega⟩
          have cj := own_cell HO.out (j := j) (by omega)
          rw [map48_getD D j (by omega)] at cj
          have ej : ∀ [Inhabited Unit], RowKit.wrap64 (((j + 1 : Nat) : Int) - 1) = (j : Int) := by intro _; rw [IntWalk.wrap64_in _ ⟨by omega, by omega⟩]; omega
          have ij : (j : Int) < (D.length : Int) := by omega
          have ij0 : (0 : Int) ≤ (j : Int) := by omega
          obtain ⟨j1, hj1⟩ : ∃ j1 : Nat, j1 = j + 1 := ⟨_, rfl⟩
          rw [← hj1] at ej ⊢
          have HJ1 := Lib.hid hj1
          have hk2 := hk
          clear hk hk1 hj1
          by_cases hz : D[j]?.getD 0 = 0
          · as_aux_lemma =>
              have hj0 : j ≠ 0 := by
                intro e
                apply HM0.out
                rw [← HV0.out]
                exact all_zero (fun i => by by_cases hi : i = 0; (subst hi; rw [← e]; exact hz); exact HZ.out i (by omega))
              have HZ2 : Hid (∀ i, j ≤ i → D[i]?.getD 0 = 0) := Lib.hid (fun i hi => by by_cases h : i = j; (subst h; exact hz); exact HZ.out i (by omega))
              rw [hz, Int.add_zero] at cj
              clear hz HZ
              go_wp2
              go_roundw
              case rel => exact ⟨j, by omega, by omega, by rw [ej], HZ2, by trivial⟩
              case measure =>
                rw [ej]
                have := HJ1.out
                simp [intOf]
                omega
          · as_aux_lemma =>
              have hn48 : ((48 : Int) + D[j]?.getD 0 == 48) = false := beq_eq_false_iff_ne.2 (by omega)
              have HTK := Lib.hid (dec_trim HR.out HV0.out (n := j + 1) (by omega) HZ.out (.inr (by simpa using hz)))
              have HTR : Hid (txtN m = ((D.map (fun d => 48 + d)).take (j + 1)).reverse) := Lib.hid (by unfold txtN; rw [if_neg HM0.out, ← HTK.out, List.map_take])
              generalize D[j]?.getD 0 = dj at *
              have hjs : ∀ [Inhabited Unit], RowKit.wrap64 ((j1 : Int) - 1) = (j : Int) := ej
              obtain ⟨T, hT⟩ : ∃ T, (D.map (fun d => 48 + d)).take (j + 1) = T := ⟨_, rfl⟩
              rw [hT] at HTR
              have hTl : T.length = j + 1 := by rw [← hT]; simp; omega
              have hTr : ∀ x ∈ T, 0 ≤ x ∧ x ≤ 255 := by
                intro x hx
                rw [← hT] at hx
                obtain ⟨y, hy, rfl⟩ := List.mem_map.1 (List.mem_of_mem_take hx)
                have := HR.out y hy
                omega
              have hTg : ∀ i, i < j + 1 → (D.map (fun d => 48 + d))[i]?.getD 0 = T[i]?.getD 0 := by intro i hi; rw [← hT, List.getElem?_take_of_lt hi]
              have HTL := Lib.hid hTl
              have HTRR := Lib.hid hTr
              have HTG := Lib.hid hTg
              have hJb : j ≤ 1000009 := by omega
              clear hz HZ hT hTl hTr hTg HTK
              go_wp2
              rw [ej]
              clear ej hjs
              go_loopw [9, 10] (fun bv iv wr => ∃ (i : Nat) (I : Int), i ≤ j + 1 ∧ iv = .int .i64 I ∧ I = (i : Int) - 1 ∧ Hid (wr.ownsRow wo.heap.size 5 1 bv (j + 1 - i) (((T.drop i).reverse).map (Value.int .u8))) ∧ Hid (Below wo.heap.size wo wr)) (fun _ iv _ => (intOf iv + 1).toNat)
              case atStart => exact ⟨j + 1, j, Nat.le_refl _, rfl, by omega, Lib.hid (by rw [List.drop_eq_nil_of_le (by rw [HTL.out]; exact Nat.le_refl _), Nat.sub_self]; exact World.ownsRow_nil _ _ _ _), Lib.hid (Below.refl _ _)⟩
              case round =>
                obtain ⟨i, I, hi, rfl, hI, HO2, HB2⟩ := hrel
                obtain ⟨wi, rfl⟩ : ∃ wi : World, wi = wr := ⟨_, rfl⟩
                have hsz := HB2.out.size
                by_cases hi0 : i = 0
                · subst hi0
                  obtain rfl : I = -1 := by omega
                  have hown2 := HO2.out
                  rw [List.drop_zero, ← HTR.out] at hown2
                  obtain ⟨a4, c4, he, hI2⟩ := own_ints hown2 (fun x hx => by rw [HTR.out] at hx; have := HTRR.out x (List.mem_reverse.1 hx); exact wf_u8_iff.2 this)
                  subst he
                  have hne : txtN m ≠ [] := by intro e; have h1 := congrArg List.length (HTR.out.symm.trans e); rw [List.length_reverse, HTL.out] at h1; cases h1
                  have hcv := run_txt (c := c4) hI2 hne
                  have hcv2 := Lib.hid hcv
                  clear hI hown2 hI2 hne HTR HTRR HTG hcv
                  have hcv := hcv2.out
                  go_wp2
                  go_ret
                  exact ⟨rfl, (HB1.out.trans (HB.out.mono HB1.out.size)).trans (HB2.out.mono (Nat.le_trans HB1.out.size HB.out.size))⟩
                · obtain ⟨q, rfl⟩ : ∃ q, i = q + 1 := ⟨i - 1, by omega⟩
                  obtain rfl : I = (q : Int) := by omega
                  have cqv := own_cell (own_below HO.out HB2.out (Nat.le_refl _)) (j := q) (by omega)
                  rw [HTG.out q (by omega)] at cqv
                  have HDR := Lib.hid (drop_rev T q (by rw [HTL.out]; omega))
                  obtain ⟨y, hy⟩ : ∃ y, T[q]?.getD 0 = y := ⟨_, rfl⟩
                  rw [hy] at cqv HDR
                  have iq : (q : Int) < (D.length : Int) := by omega
                  have iq0 : (0 : Int) ≤ (q : Int) := by omega
                  have eqw : ∀ [Inhabited Unit], RowKit.wrap64 ((q : Int) - 1) = (q : Int) - 1 := by intro _; exact IntWalk.wrap64_in _ ⟨by omega, by omega⟩
                  have gne : ¬ g = wi.heap.size := by omega
                  have hlen : j + 1 - (q + 1) + 1 = j + 1 - q := by omega
                  have HLEN := Lib.hid hlen
                  clear hy hI hi0 hlen
                  go_upto_region 19 with (at_builtin; (refine append8 wo.heap.size _ (j + 1 - (q + 1)) ((T.drop (q + 1)).reverse) y _ _ _ rfl rfl rfl HO2.out rfl (by omega) hsz ?_); intro v' w3 hown1 hbel1 _ _; have HO3 := Lib.hid hown1; have HB3 := Lib.hid (hbel1 _ _ (Nat.le_refl _) HB2.out); clear hown1 hbel1)
                  go_wp2
                  go_roundw
                  case rel => exact ⟨q, (q : Int) - 1, by omega, by first | rfl | rw [eqw], rfl, Lib.hid (by rw [HDR.out, ← HLEN.out]; exact HO3.out), HB3⟩
                  case measure => (try rw [eqw]); simp [intOf]
      · have hl1 : (0 : Int) < ((dig 4294967296 gk).length : Int) := by have := (dig_len_zero (B := 4294967296) (m := gk) (by decide)); omega
        have hLK := dec_len HV.out (Nat.pos_of_ne_zero hg0) HMK.out
        have h1 : gk ≤ m := by
          have h2 := HV.out
          have h3 : gk ≤ 10 ^ D.length * gk := Nat.le_mul_of_pos_left _ (Nat.pow_pos (by decide))
          omega
        have h4 := dig_len_mono (B := 4294967296) (by decide) h1
        have h5 := dig32_len m
        have h6 := dig_len_shift m K HMK.out
        have h7 : (dig 4294967296 gk).length ≤ 2000000 := by omega
        have HSH := Lib.hid (shortF_any aq cq gk 1000000000 wo HA.out h7 (by decide) (by decide))
        obtain ⟨M, hM⟩ : ∃ M, gk / 1000000000 = M := ⟨_, rfl⟩
        obtain ⟨r0, hr0⟩ : ∃ r, gk % 1000000000 = r := ⟨_, rfl⟩
        rw [hM, hr0] at HSH
        have hMlt : M < gk := by omega
        have hr0b : r0 < 10 ^ 9 := by rw [show (10 : Nat) ^ 9 = 1000000000 by decide]; omega
        have hgk : r0 + 10 ^ 9 * M = gk := by rw [show (10 : Nat) ^ 9 = 1000000000 by decide]; omega
        have HGK := Lib.hid hgk
        have HMLT := Lib.hid hMlt
        have HR0B := Lib.hid hr0b
        have hLKb : D.length ≤ 1000000 := by omega
        have HLK := Lib.hid hLK
        clear h1 h4 h5 h6 h7 hM hr0 hgk hMlt hr0b hg0 hLK
        go_wp2_with (go_at_call 79; refine HSH.out.mono ?_; rintro e w4 ⟨a4, c4, rfl, hN4, hb4, hf4⟩; have HN4 := Lib.hid hN4; have HO4 := Lib.hid (own_below HO.out hb4 (Nat.le_refl _)); have HOF4 := Lib.hid (off_fresh (m := (dig 4294967296 M).length) HO.out (Nat.le_refl _) hf4); have HB4 := Lib.hid (HB.out.trans (hb4.mono HB.out.size)); clear hN4 hb4 hf4)
        go_loopw [4, 6, 7] (fun dv rv kv wr => ∃ (k r : Nat) (E : List Int), k ≤ 9 ∧ kv = .int .i64 k ∧ rv = .int .u32 r ∧ Hid (r < 10 ^ (9 - k)) ∧ Hid (Rng 10 E) ∧ Hid (valB 10 E + 10 ^ E.length * (r + 10 ^ (9 - k) * M) = m) ∧ Hid (wr.ownsRow w1.heap.size 5 1 dv (E).length (((E).map (fun d => 48 + d)).map (Value.int .u8))) ∧ Hid (HAt wr wr.heap.size a4 c4 M) ∧ Hid (Off dv a4 (dig 4294967296 M).length) ∧ Hid (E.length = D.length + k) ∧ Hid (Below w1.heap.size w1 wr)) (fun _ _ kv _ => 9 - (intOf kv).toNat)
        case atStart => exact ⟨0, r0, D, Nat.zero_le _, rfl, rfl, HR0B, HR, Lib.hid (by rw [Nat.sub_zero, HGK.out]; exact HV.out), HO4, HN4, HOF4, Lib.hid rfl, HB4⟩
        case round =>
          obtain ⟨k, r, E, hk, rfl, rfl, HRR, HRE, HVE, HOE, HNE, HOFE, HEL, HBE⟩ := hrel
          obtain ⟨wi, rfl⟩ : ∃ wi : World, wi = wr := ⟨_, rfl⟩
          have hsz := HBE.out.size
          by_cases hk9 : k < 9
          · have hkk : 9 - k = (9 - (k + 1)) + 1 := by omega
            obtain ⟨p1, p2⟩ := dec_parts r M (9 - (k + 1))
            have hve := HVE.out
            have hrr := HRR.out
            rw [hkk] at hve hrr
            have hst := dec_step hve p1.symm
            rw [p2] at hst
            obtain ⟨dg, hdg⟩ : ∃ d, r % 10 = d := ⟨_, rfl⟩
            obtain ⟨r2, hr2⟩ : ∃ d, r / 10 = d := ⟨_, rfl⟩
            rw [hdg, hr2] at hst
            have hr2b : r2 < 10 ^ (9 - (k + 1)) := by rw [Nat.pow_succ] at hrr; omega
            have hrb : r < 4294967296 := by have h1 : 10 ^ (9 - (k + 1) + 1) ≤ 10 ^ 9 := Nat.pow_le_pow_right (by decide) (by omega); rw [show (10 : Nat) ^ 9 = 1000000000 by decide] at h1; omega
            have d1 : ∀ [Inhabited Unit], Int.tmod (r : Int) 10 = (dg : Int) := by intro _; rw [Int.tmod_eq_emod_of_nonneg (by omega)]; omega
            have d2 : ∀ [Inhabited Unit], (r : Int) % 10 = (dg : Int) := by intro _; omega
            have d3 : ∀ [Inhabited Unit], Int.tdiv (r : Int) 10 = (r2 : Int) := by intro _; rw [Int.tdiv_eq_ediv_of_nonneg (by omega)]; omega
            have d4 : ∀ [Inhabited Unit], (r : Int) / 10 = (r2 : Int) := by intro _; omega
            have d5 : ∀ [Inhabited Unit], IntKind.u32.wrap (dg : Int) = (dg : Int) := by intro _; rw [IntKind.wrap_u32]; omega
            have d6 : ∀ [Inhabited Unit], IntKind.u32.wrap (r2 : Int) = (r2 : Int) := by intro _; rw [IntKind.wrap_u32]; omega
            obtain ⟨y, hy⟩ : ∃ y : Int, 48 + (dg : Int) = y := ⟨_, rfl⟩
            have d7 : ∀ [Inhabited Unit], 48 + (dg : Int) = y := by intro _; exact hy
            have d8 : ∀ [Inhabited Unit], IntKind.u32.wrap y = y := by intro _; rw [IntKind.wrap_u32]; omega
            have d9 : ∀ [Inhabited Unit], IntKind.u8.wrap y = y := by intro _; simp only [IntKind.wrap, IntKind.bits, IntKind.signed]; simp; omega
            have HST := Lib.hid hst
            have HR2 : Hid (Rng 10 (E ++ [(dg : Int)])) := Lib.hid (HRE.out.append (by intro x hx; simp only [List.mem_singleton] at hx; subst hx; omega))
            have HR2B := Lib.hid hr2b
            have HYM : Hid ((E ++ [(dg : Int)]).map (fun d => 48 + d) = E.map (fun d => 48 + d) ++ [y]) := Lib.hid (by rw [List.map_append]; simp [hy])
            have ik : (k : Int) < 9 := by omega
            have hEb : E.length ≤ 1000009 := by have := HEL.out; omega
            clear hve hrr hst hdg hr2 hr2b hrb hy hkk p1 p2 hk9
            go_upto_region 11 with (at_builtin; (refine append8 w1.heap.size _ E.length (E.map (fun d => 48 + d)) y _ _ _ rfl rfl rfl HOE.out rfl (by omega) hsz ?_); intro v' w3 hown1 hbel1 hgr hob; have HO3 := Lib.hid hown1; have HB3 := Lib.hid (hbel1 _ _ (Nat.le_refl _) HBE.out); have HN3 := Lib.hid (hat_grown HNE.out hgr HOFE.out); have HOF3 := Lib.hid (HOFE.out.next HNE.out.li hob); clear hown1 hbel1 hgr hob)
            go_wp2
            go_roundw
            case rel => exact ⟨k + 1, r2, E ++ [(dg : Int)], by omega, by go_num, rfl, HR2B, HR2, Lib.hid (by rw [List.length_append]; exact HST.out), Lib.hid (by rw [HYM.out, List.length_append]; exact HO3.out), HN3, HOF3, Lib.hid (by rw [List.length_append, HEL.out]; rfl), HB3⟩
            case measure => simp [intOf]; omega
          · have ik : ¬ (k : Int) < 9 := by omega
            have hk9e : k = 9 := by omega
            have hr00 : r = 0 := by have := HRR.out; rw [hk9e] at this; simpa using this
            have hve := HVE.out
            rw [hr00, hk9e, Nat.sub_self, Nat.pow_zero, Nat.one_mul, Nat.zero_add] at hve
            have HV2 := Lib.hid hve
            have HLE : Hid (E.length ≤ K + 9) := Lib.hid (by have := HEL.out; have := HLK.out; omega)
            clear hve hk9e hr00 hk9
            go_wp2
            go_roundg M
            case measure => exact HMLT.out
            case rel => exact ⟨E, a4, c4, rfl, HNE, HRE, HV2, HOE, HOFE, HLE, HBE⟩
end Go.Proofs.Ytlbmpdidmckgkaa
