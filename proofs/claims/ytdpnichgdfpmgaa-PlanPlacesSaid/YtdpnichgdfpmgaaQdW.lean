/- Walks: plan.Place. -/
import Derived.Test.YtdpnichgdfpmgaaQcW
import Derived.Test.YtdpnichgdfpmgaaQdP
import Derived.Test.YtdpnichgdfpmgaaQaK
import Derived.Test.YtdpnichgdfpmgaaQaV
import Derived.Test.YtdpnichgdfpmgaaTakeL
import Derived.RangeFuncBox
import Derived.RangeFuncCalls
set_option linter.unusedVariables false
set_option linter.unusedSimpArgs false
namespace Go.Proofs.Ytdpnichgdfpmgaa
open Go.RowKit Go.Rt
attribute [local go_sem] Oper.semAt_some
theorem ld16 {α : Type} {l : List α} (h : l.length = 16) : ∃ x0 x1 x2 x3 x4 x5 x6 x7 x8 x9 x10 x11 x12 x13 x14 x15, l = [x0, x1, x2, x3, x4, x5, x6, x7, x8, x9, x10, x11, x12, x13, x14, x15] := by
  match l, h with
  | [x0, x1, x2, x3, x4, x5, x6, x7, x8, x9, x10, x11, x12, x13, x14, x15], _ => exact ⟨x0, x1, x2, x3, x4, x5, x6, x7, x8, x9, x10, x11, x12, x13, x14, x15, rfl⟩
theorem wp_calmQ {P : Program} {c : Code} {Q : Exit → Act → World → Prop} {a : Act} {w : World} (h : c.wp P (fun e a w => match e with | .normal => Q .normal a w | _ => False) a w) : c.wp P Q a w := by
  refine wp_mono h ?_
  rintro e a2 w2 hq
  cases e <;> first | exact hq | exact hq.elim
attribute [local go_sem] Oper.semAt_some
theorem infoIntQ : (Try.prog.info? 3).map (fun i => (i.zero, i.size, i.bytes)) = some (some (.int .i64 0), 1, 8) := by kernel_rfl
def RetPl (w : World) (n : Nat) (P : Nat → Buf) (peak : Int) (e : Ending) (w' : World) : Prop := ∃ p cp, e = .returned (.tuple #[.slice (some ⟨p, 0, none⟩) n cp, .int .i64 peak, .int .i64 0]) ∧ Fr w.heap.size w w' [(p, flatB4 P n)] [] [] []
theorem psortB_all (v : Value) (m base : Nat) (T : Nat → Buf) (w : World) (hown : w.ownsRow base 36 4 v m (flatB4 T m)) (hmb : m ≤ 1000000) (hT : ∀ i, i < m → 0 ≤ (T i).pl ∧ (T i).pl ≤ 1000000000) :
    Calls Try.prog 20 #[v, .func (.func 21) #[] #[]] w fun e w' => e = .returned (.tuple #[]) ∧ w.grownBy w' v.ownBlock ∧ ∃ T2 : Nat → Buf, (∀ c, (∃ i, i < m ∧ c = T2 i) ↔ ∃ i, i < m ∧ c = T i) ∧ (∀ a b, a ≤ b → b < m → (T2 a).pl ≤ (T2 b).pl) ∧ ∃ a cv, v = .slice a m cv ∧ BL w' w.heap.size a m T2 := by
  by_cases hm : m = 0
  · subst hm
    obtain ⟨p, cv, rfl⟩ : ∃ p cv, v = .slice p 0 cv := by
      rcases hown.2 with ⟨h, _⟩ | ⟨g, cap, cur, h, _⟩
      · exact ⟨_, _, h⟩
      · exact ⟨_, _, h⟩
    refine (psortB_none p cv w).mono ?_
    rintro e w' ⟨he, rfl⟩
    exact ⟨he, grown_refl _ _, T, fun c => Iff.rfl, fun a b _ hb => absurd hb (by omega), p, cv, rfl, by omega, fun i hi => absurd hi (by omega)⟩
  · obtain ⟨g, cv, rfl, hg, hgl⟩ := hown.form (by omega)
    have hbx := box_of_own hown
    refine (psortB_any g m cv T w (by omega) hmb (fun i hi j u hu => ⟨hbx.cell _ _ (flatB4_get T m i j u hi hu), hbx.free _ (by rw [flatB4_len]; have := (List.getElem?_eq_some_iff.1 hu).1; have h4 : (T i).c.length = 4 := rfl; omega)⟩) hT).mono ?_
    rintro e w' ⟨he, hgr, T2, h1, h2, h3⟩
    exact ⟨he, hgr, T2, h1, h2, _, _, rfl, by omega, fun i hi => ⟨g, 0, rfl, hgl, fun j u hu => by rw [Nat.zero_add]; exact (h3 i hi j u hu).1⟩⟩
set_option maxRecDepth 100000 in
set_option maxHeartbeats 4000000 in
theorem qplace_ok (al : Option Addr) (c n : Nat) (L : Nat → Buf) (g : Nat → Nat) (w : World) (h : BL w w.heap.size al n L) (hn : 1 ≤ n) (ok : BufsOk L n) (og : Ord (fun i => (L i).fr) g n) :
    Calls Try.prog 8 #[.slice al n c] w (RetPl w n (PS L g n) (pkK L g n)) := by
  have hn2 := ok.1
  obtain ⟨lb, lo, rfl, _⟩ := h.cell 0 (by omega)
  have HL := Lib.hid h
  have OK := Lib.hid ok
  have OG := Lib.hid og
  have HN := Lib.hid hn
  have F1 := Lib.hid ((Fr.start (w := w) (I := []) (by simp)).box1 (b := w.heap.size) rfl [.slice (some ⟨lb, lo, none⟩) n c] 23)
  simp only [List.nil_append] at F1
  clear h ok og
  refine (callsIn_wide (n := 20)).1 ?_
  refine callsIn_of_wp_marks Try.func8 rfl trivial ?_ rfl
  simp only [Try.ntmps8, List.size_toArray, List.length_cons, List.length_nil, Nat.reduceAdd, Nat.reduceSub, Array.replicate_succ, Array.replicate_zero, List.push_toArray, List.append_toArray, List.nil_append, List.cons_append]
  refine wpIn_wide.2 ?_
  go_upto_region 1 with fail
  obtain ⟨W1, hW1⟩ : ∃ x, (w.alloc (.cells #[.slice (some ⟨lb, lo, none⟩) n c] 23)) = x := ⟨_, rfl⟩
  rw [hW1] at F1 ⊢
  clear hW1
  have c0 := F1.out.c 0 0 rfl rfl
  have hn3 : ¬ (1024 : Int) < (n : Int) := by omega
  go_upto_region 3 with (go_at_call 14; refine (qcontains_any _ c n L _ ((HL.out.below F1.out.bel (Nat.le_refl _)).mono F1.out.hlo)).mono ?_; rintro e w2 ⟨⟨B, rfl, hB⟩, hb⟩; obtain rfl := hB.2 OK.out.2; have F2 := Lib.hid (F1.out.next hb); clear hB hb F1 c0)
  have c0 := F2.out.c 0 0 rfl rfl
  go_upto_region 4 with (go_at_call 17; refine (qclone_some lb lo c n L _ ((HL.out.below F2.out.bel (Nat.le_refl _)).mono F2.out.hlo) hn (by omega)).mono ?_; rintro e w3 ⟨p, cp, rfl, hown, hb⟩; have F3 := Lib.hid (F2.out.join2 (fr_of_own hb hown)); simp only [List.cons_append, List.nil_append] at F3; clear hown hb F2 c0)
  have c0 := F3.out.c 0 0 rfl rfl
  go_upto_region 5 with (at_make; (refine wpl_make 42 3 .i64 infoIntQ Try.underlying42 w3.heap.size n _ _ _ _ rfl rfl rfl rfl rfl rfl (by omega) (Nat.le_refl _) ?_); intro w4 hown hgrow hsz4; have F4 := Lib.hid (F3.out.join2 (fr_of_own (hgrow _ (Nat.le_refl _)) hown)); clear hown hgrow F3 c0)
  obtain ⟨o, ho⟩ : ∃ x, w3.heap.size = x := ⟨_, rfl⟩
  rw [ho] at F4 hsz4 ⊢
  simp only [List.cons_append, List.nil_append] at F4
  rw [ordV_zero, ← fillO_zero] at F4
  clear hsz4 ho
  go_wp2
  go_loopw [30] (fun s30 wr => ∃ k : Nat, s30 = .int .i64 (k : Nat) ∧ k ≤ n ∧ Hid (Fr w.heap.size w wr [(w.heap.size, [.slice (some ⟨lb, lo, none⟩) n c]), (p, flatB4 L n), (o, ordV (fillO k) n)] [] [] ([]))) (fun s30 _ => n - (intOf s30).toNat)
  case atStart => exact ⟨0, rfl, Nat.zero_le _, F4⟩
  case round =>
    obtain ⟨k, rfl, hk, F5⟩ := hrel
    clear F4
    obtain ⟨wo, rfl⟩ : ∃ x : World, x = wr := ⟨_, rfl⟩
    by_cases hlt : k < n
    · skip
      have hki : (k : Int) < (n : Int) := by omega
      have k0 := F5.out.c 2 k rfl (ordV_get _ hlt)
      have kf := F5.out.f 2 k rfl (ordV_get _ hlt)
      have F6 := Lib.hid (F5.out.setC 2 k rfl (ordV_ne _ HN.out) (.int .i64 (k : Nat)))
      rw [ordV_set _ _ hlt, fillO_step] at F6
      simp only [List.set_cons_zero, List.set_cons_succ] at F6
      go_wp2
      go_roundw
      case rel => exact ⟨k + 1, by first | rfl | go_num, by omega, F6⟩
      case measure => (simp only [intOf]; omega)
    · obtain rfl : n = k := by omega
      have hid : ∀ i, i < n → fillO n i = i := fun i hi => by unfold fillO; rw [if_pos hi]
      have HID := Lib.hid hid
      clear hid
      have hka : ∀ W, Hid (Fr w.heap.size w W [(w.heap.size, [.slice (some ⟨lb, lo, none⟩) n c]), (p, flatB4 L n), (o, ordV (fillO n) n)] [] [] ([])) → KA W o w.heap.size n (some ⟨lb, lo, none⟩) c (fun i => (L i).fr) := fun W F => by
        have hap := F.out.apart
        simp only [List.pairwise_cons, List.mem_cons, List.not_mem_nil, or_false, forall_eq_or_imp, forall_eq] at hap
        have hB := HL.out.below F.out.bel (Nat.le_refl _)
        have hol := (F.out.bl 2 rfl).1
        refine ⟨hap.1.2, F.out.c 0 0 rfl rfl, fun i hi => ?_, fun i hi => ?_, by omega⟩
        · obtain ⟨b9, o9, he, hlt9, d0, _⟩ := hB.four hi
          cases he
          exact ⟨lb, lo, rfl, by omega, d0⟩
        · have h9 := bufOk_iff.1 (OK.out.2 i hi)
          exact ⟨h9.1, by omega⟩
      have HKA := Lib.hid (hka wo F5)
      clear hka
      go_upto_region 11 with (go_at_call 18; refine (psort_any o w.heap.size n n c (some ⟨lb, lo, none⟩) (fun i => (L i).fr) (fillO n) _ (SF.of_box (F5.out.box _ (List.mem_of_getElem? (i := 2) rfl)).1) HKA.out HID.out).mono ?_; rintro e w6 ⟨rfl, g2, hs, hs1, hs2⟩; have hgg : ∀ i, i < n → g2 i = g i := fun i hi => Ord.unique ⟨hs1, hs2⟩ OG.out i hi; have hbx := hs.box; rw [ordV_cong hgg] at hbx; have F6 := Lib.hid (F5.out.wrote 2 rfl (ordV_ne _ HN.out) hs.grown hbx); simp only [List.set_cons_zero, List.set_cons_succ] at F6; clear hs hs1 hs2 hgg hbx F5 HKA HID)
      have hp0 : PS L g 0 = L := funext fun i => rfl
      rw [← hp0] at F6
      clear hp0
      go_wp2
      refine wp_loopF (fun s w' ds => ∃ (r : Nat) (Ds : List Nat), r ≤ n ∧ s 43 = .int .i64 (r : Nat) ∧ s 3 = .int .i64 (pkK L g r) ∧ ds = mkD Ds ∧ Hid (Fr w.heap.size w w' [(w.heap.size, [.slice (some ⟨lb, lo, none⟩) n c]), (p, flatB4 (PS L g r) n), (o, ordV g n)] [] [] (mkM Ds))) (fun s => #[.slice (some ⟨lb, lo, none⟩) n c, .pointer (some ⟨w.heap.size, 0, none⟩), .slice (some ⟨p, 0, none⟩) n cp, s 3, .int .i64 0, .slice (some ⟨o, 0, none⟩) n n, s 6, s 7, s 8, s 9, s 10, s 11, s 12, s 13, s 14, s 15, s 16, s 17, s 18, s 19, s 20, s 21, s 22, s 23, s 24, s 25, s 26, s 27, s 28, s 29, s 30, s 31, s 32, s 33, s 34, s 35, s 36, s 37, s 38, s 39, s 40, .slice (some ⟨o, 0, none⟩) n n, .int .i64 (n : Int), s 43, s 44, s 45, s 46, s 47, s 48, s 49, s 50, s 51, s 52, s 53, s 54, s 55, s 56, s 57, s 58, s 59, s 60, s 61, s 62, s 63, s 64, s 65, s 66, s 67, s 68, s 69, s 70, s 71, s 72, s 73, s 74, s 75, s 76, s 77, s 78, s 79, s 80, s 81, s 82, s 83, s 84, s 85, s 86, s 87, s 88, s 89, s 90, s 91, s 92, s 93, s 94, s 95, s 96, s 97, s 98, s 99, s 100, s 101, s 102, s 103, s 104, s 105, s 106, s 107, s 108, s 109, s 110, s 111, s 112, s 113, s 114, s 115, s 116, s 117]) (fun s => n - (intOf (s 43)).toNat) ⟨0, [], Nat.zero_le _, rfl, rfl, rfl, F6⟩ rfl ?_
      rintro s wr ds ⟨r, Ds, hr, h43, h3, rfl, F8⟩
      clear F6
      obtain ⟨wo, rfl⟩ : ∃ x : World, x = wr := ⟨_, rfl⟩
      dsimp only
      rw [h43, h3]
      have hN43 := Lib.hid h43
      have hN3 := Lib.hid h3
      clear h43 h3
      by_cases hlt : r < n
      · skip
        have hri : (r : Int) < (n : Int) := by omega
        have og0 := (F8.out.c 2 r rfl (ordV_get g hlt))
        have hgr := OG.out.lt r hlt
        have hgl : (g r : Int) < (n : Int) := by omega
        obtain ⟨y, hy⟩ : ∃ z, g r = z := ⟨_, rfl⟩
        rw [hy] at og0 hgr hgl
        have HYG := Lib.hid hy
        obtain ⟨PK, hPK⟩ : ∃ z, pkK L g r = z := ⟨_, rfl⟩
        rw [hPK]
        have HPK := Lib.hid hPK
        have hpkb := pkK_bd OG.out OK.out r (by omega)
        rw [hPK] at hpkb
        clear hy hPK
        go_upto_region 14 with fail
        go_step3
        go_wp2
        obtain ⟨Q, hQ⟩ : ∃ x, wo.heap.size = x := ⟨_, rfl⟩
        rw [hQ]
        have F9 := Lib.hid (F8.out.box1 (b := Q) hQ [.pointer (some ⟨p, y * 4, none⟩)] 45)
        simp only [List.cons_append, List.nil_append] at F9
        obtain ⟨W9, hW9⟩ : ∃ x, wo.alloc (.cells #[.pointer (some ⟨p, y * 4, none⟩)] 45) = x := ⟨_, rfl⟩
        rw [hW9] at F9 ⊢
        clear hW9 hQ F8 og0
        go_loopw [10, 55] (fun s10 s55 wr => ∃ j : Nat, s55 = .int .i64 (j : Nat) ∧ j ≤ r ∧ Hid (FrT w.heap.size w wr [(w.heap.size, [.slice (some ⟨lb, lo, none⟩) n c]), (p, flatB4 (PS L g r) n), (o, ordV g n), (Q, [.pointer (some ⟨p, y * 4, none⟩)])] (mkM Ds) 36 4 s10 (tkc (PS L g r) g (L y) j) (flatB4 (tkf (PS L g r) g (L y) j) (tkc (PS L g r) g (L y) j)))) (fun _ s55 _ => r - (intOf s55).toNat)
        case atStart => exact ⟨0, rfl, Nat.zero_le _, Lib.hid (FrT.start F9.out)⟩
        case round =>
          obtain ⟨j, rfl, hj, F10⟩ := hrel
          clear F9
          obtain ⟨wi, rfl⟩ : ∃ x : World, x = wr := ⟨_, rfl⟩
          by_cases hjl : j < r
          · skip
            have hjn : j < n := by omega
            have hji : (j : Int) < (r : Int) := by omega
            have q0 := F10.out.fr.c 2 j rfl (ordV_get g hjn)
            have hmn := OG.out.lt j hjn
            obtain ⟨m, hm⟩ : ∃ z, g j = z := ⟨_, rfl⟩
            rw [hm] at q0 hmn
            have hmi : (m : Int) < (n : Int) := by omega
            have HMG := Lib.hid hm
            obtain ⟨f0, f1, f2, f3⟩ := flat_four (PS L g r) hmn
            obtain ⟨⟨e1, e2, e3, e4⟩, hx⟩ : ∃ z, PS L g r m = z := ⟨_, rfl⟩
            rw [hx] at f0 f1 f2 f3
            have p0 := F10.out.fr.c 1 _ rfl f0
            have p1 := F10.out.fr.c 1 _ rfl f1
            have p2 := F10.out.fr.c 1 _ rfl f2
            have p3 := F10.out.fr.c 1 _ rfl f3
            have HX := Lib.hid hx
            obtain ⟨g0, g1, g2, _⟩ := flat_four (PS L g r) hgr
            have hps := PS_same L g r y
            obtain ⟨y1, hy1⟩ : ∃ z, (L y).fr = z := ⟨_, rfl⟩
            obtain ⟨y2, hy2⟩ : ∃ z, (L y).tt = z := ⟨_, rfl⟩
            rw [hps.1, hy1] at g0
            rw [hps.2.1, hy2] at g1
            have HG0 := Lib.hid g0
            have HG1 := Lib.hid g1
            have hme : meets (PS L g r (g j)) (L y) = (decide (e1 ≤ y2) && decide (y1 ≤ e2)) := by rw [hm, hx, ← hy1, ← hy2]; rfl
            have HME := Lib.hid hme
            have htn := fun h => tk_no (P := PS L g r) (g := g) (b := L y) (j := j) h
            have hty := fun h => tk_yes (P := PS L g r) (g := g) (b := L y) (j := j) h
            rw [hm, hx] at hty
            obtain ⟨TC, hTC⟩ : ∃ z, tkc (PS L g r) g (L y) j = z := ⟨_, rfl⟩
            have htcl : TC ≤ j := by rw [← hTC]; exact tkc_le _ _ _ j
            rw [hTC] at htn hty F10
            obtain ⟨TF, hTF⟩ : ∃ z, flatB4 (tkf (PS L g r) g (L y) j) TC = z := ⟨_, rfl⟩
            rw [hTF] at hty F10
            have HTC := Lib.hid hTC
            have HTF := Lib.hid hTF
            have HTN := Lib.hid htn
            have HTY := Lib.hid hty
            clear hm f0 f1 f2 f3 hx g0 g1 g2 hps hy1 hy2 hme htn hty hTC hTF
            go_upto_region 20 with fail
            obtain ⟨Qc, hQc⟩ : ∃ x, wi.heap.size = x := ⟨_, rfl⟩
            rw [hQc]
            have F11 := Lib.hid (F10.out.box1 (b := Qc) hQc [.int .i64 e1, .int .i64 e2, .int .i64 e3, .int .i64 e4] 36)
            simp only [List.cons_append, List.nil_append] at F11
            obtain ⟨W11, hW11⟩ : ∃ x, wi.alloc (.cells #[.int .i64 e1, .int .i64 e2, .int .i64 e3, .int .i64 e4] 36) = x := ⟨_, rfl⟩
            rw [hW11] at F11 ⊢
            clear hW11 hQc F10 q0 p0 p1 p2 p3
            by_cases hc1 : e1 ≤ y2
            · by_cases hc2 : y1 ≤ e2
              · skip
                refine wp_region_inv (w := W11) 16 (fun _ _ => True) (fun _ W => FrT w.heap.size w W [(w.heap.size, [.slice (some ⟨lb, lo, none⟩) n c]), (p, flatB4 (PS L g r) n), (o, ordV g n), (Q, [.pointer (some ⟨p, y * 4, none⟩)]), (Qc, [.int .i64 e1, .int .i64 e2, .int .i64 e3, .int .i64 e4])] (mkM Ds) 36 4 u10 TC TF) [] [(fun u _ => u = .pointer (some ⟨Qc, 0, none⟩)), (fun u _ => u = .int .i64 e1), (fun u _ => u = .pointer (some ⟨p, y * 4, none⟩)), (fun u _ => u = .pointer (some ⟨p, y * 4, none⟩)), (fun u _ => u = .pointer (some ⟨p, y * 4 + 1, none⟩)), (fun u _ => u = .int .i64 y2), (fun u _ => u = .bool true), (fun u _ => u = .bool true), (fun u _ => u = .pointer (some ⟨p, y * 4, none⟩)), (fun u _ => u = .pointer (some ⟨p, y * 4, none⟩)), (fun u _ => u = .pointer (some ⟨p, y * 4, none⟩)), (fun u _ => u = .int .i64 y1), (fun u _ => u = .pointer (some ⟨Qc, 1, none⟩)), (fun u _ => u = .int .i64 e2), (fun u _ => u = .bool true), (fun u _ => u = .bool true)] [some 63, some 64, some 65, some 66, some 67, some 68, some 69, some 70, some 71, some 72, some 73, some 74, some 75, some 76, some 77, some 78] (by kernel_rfl) (by kernel_rfl) rfl (by kernel_rfl) (by kernel_rfl) (by decide) (by decide) (fun _ _ => trivial) trivial (F11.out.next (Below.drew (Below.refl _ _))) (BorneAll.at (.cons (borne_eq _) (.cons (borne_eq _) (.cons (borne_eq _) (.cons (borne_eq _) (.cons (borne_eq _) (.cons (borne_eq _) (.cons (borne_eq _) (.cons (borne_eq _) (.cons (borne_eq _) (.cons (borne_eq _) (.cons (borne_eq _) (.cons (borne_eq _) (.cons (borne_eq _) (.cons (borne_eq _) (.cons (borne_eq _) (.cons (borne_eq _) .nil))))))))))))))))) (fun vs b hvl hvb => ?_)
                obtain ⟨x0, x1, x2, x3, x4, x5, x6, x7, x8, x9, x10, x11, x12, x13, x14, x15, rfl⟩ : ∃ x0 x1 x2 x3 x4 x5 x6 x7 x8 x9 x10 x11 x12 x13 x14 x15, vs = [x0, x1, x2, x3, x4, x5, x6, x7, x8, x9, x10, x11, x12, x13, x14, x15] := ld16 hvl
                clear hvl
                simp only [putAll, Act.put, List.setIfInBounds_toArray, List.set_cons_zero, List.set_cons_succ] at hvb
                subst hvb
                refine ⟨(.snoc (.snoc (.snoc (.snoc (.snoc (.snoc (.snoc (.snoc (.snoc (.snoc (.snoc (.snoc (.snoc (.snoc (.snoc (.snoc .zero (InvOb.intro (d := (some 63)) (r := fun u _ => u = .pointer (some ⟨Qc, 0, none⟩)) 0 0 rfl rfl rfl (by kernel_rfl) (by kernel_rfl) rfl ?io20ttx0)) (InvOb.intro (d := (some 64)) (r := fun u _ => u = .int .i64 e1) 0 0 rfl rfl rfl (by kernel_rfl) (by kernel_rfl) rfl ?io20ttx1)) (InvOb.intro (d := (some 65)) (r := fun u _ => u = .pointer (some ⟨p, y * 4, none⟩)) 0 0 rfl rfl rfl (by kernel_rfl) (by kernel_rfl) rfl ?io20ttx2)) (InvOb.intro (d := (some 66)) (r := fun u _ => u = .pointer (some ⟨p, y * 4, none⟩)) 0 0 rfl rfl rfl (by kernel_rfl) (by kernel_rfl) rfl ?io20ttx3)) (InvOb.intro (d := (some 67)) (r := fun u _ => u = .pointer (some ⟨p, y * 4 + 1, none⟩)) 0 0 rfl rfl rfl (by kernel_rfl) (by kernel_rfl) rfl ?io20ttx4)) (InvOb.intro (d := (some 68)) (r := fun u _ => u = .int .i64 y2) 0 0 rfl rfl rfl (by kernel_rfl) (by kernel_rfl) rfl ?io20ttx5)) (InvOb.intro (d := (some 69)) (r := fun u _ => u = .bool true) 0 0 rfl rfl rfl (by kernel_rfl) (by kernel_rfl) rfl ?io20ttx6)) (InvOb.intro (d := (some 70)) (r := fun u _ => u = .bool true) 0 0 rfl rfl rfl (by kernel_rfl) (by kernel_rfl) rfl ?io20ttx7)) (InvOb.intro (d := (some 71)) (r := fun u _ => u = .pointer (some ⟨p, y * 4, none⟩)) 0 0 rfl rfl rfl (by kernel_rfl) (by kernel_rfl) rfl ?io20ttx8)) (InvOb.intro (d := (some 72)) (r := fun u _ => u = .pointer (some ⟨p, y * 4, none⟩)) 0 0 rfl rfl rfl (by kernel_rfl) (by kernel_rfl) rfl ?io20ttx9)) (InvOb.intro (d := (some 73)) (r := fun u _ => u = .pointer (some ⟨p, y * 4, none⟩)) 0 0 rfl rfl rfl (by kernel_rfl) (by kernel_rfl) rfl ?io20ttx10)) (InvOb.intro (d := (some 74)) (r := fun u _ => u = .int .i64 y1) 0 0 rfl rfl rfl (by kernel_rfl) (by kernel_rfl) rfl ?io20ttx11)) (InvOb.intro (d := (some 75)) (r := fun u _ => u = .pointer (some ⟨Qc, 1, none⟩)) 0 0 rfl rfl rfl (by kernel_rfl) (by kernel_rfl) rfl ?io20ttx12)) (InvOb.intro (d := (some 76)) (r := fun u _ => u = .int .i64 e2) 0 0 rfl rfl rfl (by kernel_rfl) (by kernel_rfl) rfl ?io20ttx13)) (InvOb.intro (d := (some 77)) (r := fun u _ => u = .bool true) 0 0 rfl rfl rfl (by kernel_rfl) (by kernel_rfl) rfl ?io20ttx14)) (InvOb.intro (d := (some 78)) (r := fun u _ => u = .bool true) 0 0 rfl rfl rfl (by kernel_rfl) (by kernel_rfl) rfl ?io20ttx15)), ?iend20tt⟩
                case io20ttx0 =>
                  intro k1 w1 hk0 hk1 hb1 hS hd KK hK
                  clear hd
                  simp only [Act.put, List.setIfInBounds_toArray, List.set_cons_zero, List.set_cons_succ] at hK
                  go_simp
                  first | exact hK.out _ _ trivial hS rfl | (have hk := hK.out _ _ trivial hS rfl; revert hk; go_simp)
                case io20ttx1 =>
                  intro k1 w1 hk0 hk1 hb1 hS hd KK hK
                  have d0 : x0 = .pointer (some ⟨Qc, 0, none⟩) := hd 0 (by kernel_rfl)
                  clear hd
                  subst d0
                  have k0 := hS.fr.c 4 0 rfl rfl
                  simp only [Act.put, List.setIfInBounds_toArray, List.set_cons_zero, List.set_cons_succ] at hK
                  go_simp
                  first | exact hK.out _ _ trivial hS rfl | (have hk := hK.out _ _ trivial hS rfl; revert hk; go_simp)
                case io20ttx2 =>
                  intro k1 w1 hk0 hk1 hb1 hS hd KK hK
                  clear hd
                  have k0 := hS.fr.c 3 0 rfl rfl
                  simp only [Act.put, List.setIfInBounds_toArray, List.set_cons_zero, List.set_cons_succ] at hK
                  go_simp
                  first | exact hK.out _ _ trivial hS rfl | (have hk := hK.out _ _ trivial hS rfl; revert hk; go_simp)
                case io20ttx3 =>
                  intro k1 w1 hk0 hk1 hb1 hS hd KK hK
                  have d2 : x2 = .pointer (some ⟨p, y * 4, none⟩) := hd 2 (by kernel_rfl)
                  clear hd
                  subst d2
                  simp only [Act.put, List.setIfInBounds_toArray, List.set_cons_zero, List.set_cons_succ] at hK
                  go_simp
                  first | exact hK.out _ _ trivial hS rfl | (have hk := hK.out _ _ trivial hS rfl; revert hk; go_simp)
                case io20ttx4 =>
                  intro k1 w1 hk0 hk1 hb1 hS hd KK hK
                  have d3 : x3 = .pointer (some ⟨p, y * 4, none⟩) := hd 3 (by kernel_rfl)
                  clear hd
                  subst d3
                  simp only [Act.put, List.setIfInBounds_toArray, List.set_cons_zero, List.set_cons_succ] at hK
                  go_simp
                  first | exact hK.out _ _ trivial hS rfl | (have hk := hK.out _ _ trivial hS rfl; revert hk; go_simp)
                case io20ttx5 =>
                  intro k1 w1 hk0 hk1 hb1 hS hd KK hK
                  have d4 : x4 = .pointer (some ⟨p, y * 4 + 1, none⟩) := hd 4 (by kernel_rfl)
                  clear hd
                  subst d4
                  have k0 := hS.fr.c 1 _ rfl HG1.out
                  simp only [Act.put, List.setIfInBounds_toArray, List.set_cons_zero, List.set_cons_succ] at hK
                  go_simp
                  first | exact hK.out _ _ trivial hS rfl | (have hk := hK.out _ _ trivial hS rfl; revert hk; go_simp)
                case io20ttx6 =>
                  intro k1 w1 hk0 hk1 hb1 hS hd KK hK
                  have d1 : x1 = .int .i64 e1 := hd 1 (by kernel_rfl)
                  have d5 : x5 = .int .i64 y2 := hd 5 (by kernel_rfl)
                  clear hd
                  subst d1
                  subst d5
                  have g1 := hc1
                  simp only [Act.put, List.setIfInBounds_toArray, List.set_cons_zero, List.set_cons_succ] at hK
                  go_simp
                  first | exact hK.out _ _ trivial hS rfl | (have hk := hK.out _ _ trivial hS rfl; revert hk; go_simp)
                case io20ttx7 =>
                  intro k1 w1 hk0 hk1 hb1 hS hd KK hK
                  have d6 : x6 = .bool true := hd 6 (by kernel_rfl)
                  clear hd
                  subst d6
                  simp only [Act.put, List.setIfInBounds_toArray, List.set_cons_zero, List.set_cons_succ] at hK
                  go_simp
                  first | exact hK.out _ _ trivial hS rfl | (have hk := hK.out _ _ trivial hS rfl; revert hk; go_simp)
                case io20ttx8 =>
                  intro k1 w1 hk0 hk1 hb1 hS hd KK hK
                  have d7 : x7 = .bool true := hd 7 (by kernel_rfl)
                  clear hd
                  subst d7
                  have k0 := hS.fr.c 3 0 rfl rfl
                  simp only [Act.put, List.setIfInBounds_toArray, List.set_cons_zero, List.set_cons_succ] at hK
                  go_simp
                  first | exact hK.out _ _ trivial hS rfl | (have hk := hK.out _ _ trivial hS rfl; revert hk; go_simp)
                case io20ttx9 =>
                  intro k1 w1 hk0 hk1 hb1 hS hd KK hK
                  have d7 : x7 = .bool true := hd 7 (by kernel_rfl)
                  have d8 : x8 = .pointer (some ⟨p, y * 4, none⟩) := hd 8 (by kernel_rfl)
                  clear hd
                  subst d7
                  subst d8
                  simp only [Act.put, List.setIfInBounds_toArray, List.set_cons_zero, List.set_cons_succ] at hK
                  go_simp
                  first | exact hK.out _ _ trivial hS rfl | (have hk := hK.out _ _ trivial hS rfl; revert hk; go_simp)
                case io20ttx10 =>
                  intro k1 w1 hk0 hk1 hb1 hS hd KK hK
                  have d7 : x7 = .bool true := hd 7 (by kernel_rfl)
                  have d9 : x9 = .pointer (some ⟨p, y * 4, none⟩) := hd 9 (by kernel_rfl)
                  clear hd
                  subst d7
                  subst d9
                  simp only [Act.put, List.setIfInBounds_toArray, List.set_cons_zero, List.set_cons_succ] at hK
                  go_simp
                  first | exact hK.out _ _ trivial hS rfl | (have hk := hK.out _ _ trivial hS rfl; revert hk; go_simp)
                case io20ttx11 =>
                  intro k1 w1 hk0 hk1 hb1 hS hd KK hK
                  have d7 : x7 = .bool true := hd 7 (by kernel_rfl)
                  have d10 : x10 = .pointer (some ⟨p, y * 4, none⟩) := hd 10 (by kernel_rfl)
                  clear hd
                  subst d7
                  subst d10
                  have k0 := hS.fr.c 1 _ rfl HG0.out
                  simp only [Act.put, List.setIfInBounds_toArray, List.set_cons_zero, List.set_cons_succ] at hK
                  go_simp
                  first | exact hK.out _ _ trivial hS rfl | (have hk := hK.out _ _ trivial hS rfl; revert hk; go_simp)
                case io20ttx12 =>
                  intro k1 w1 hk0 hk1 hb1 hS hd KK hK
                  have d7 : x7 = .bool true := hd 7 (by kernel_rfl)
                  clear hd
                  subst d7
                  simp only [Act.put, List.setIfInBounds_toArray, List.set_cons_zero, List.set_cons_succ] at hK
                  go_simp
                  first | exact hK.out _ _ trivial hS rfl | (have hk := hK.out _ _ trivial hS rfl; revert hk; go_simp)
                case io20ttx13 =>
                  intro k1 w1 hk0 hk1 hb1 hS hd KK hK
                  have d7 : x7 = .bool true := hd 7 (by kernel_rfl)
                  have d12 : x12 = .pointer (some ⟨Qc, 1, none⟩) := hd 12 (by kernel_rfl)
                  clear hd
                  subst d7
                  subst d12
                  have k0 := hS.fr.c 4 1 rfl rfl
                  simp only [Act.put, List.setIfInBounds_toArray, List.set_cons_zero, List.set_cons_succ] at hK
                  go_simp
                  first | exact hK.out _ _ trivial hS rfl | (have hk := hK.out _ _ trivial hS rfl; revert hk; go_simp)
                case io20ttx14 =>
                  intro k1 w1 hk0 hk1 hb1 hS hd KK hK
                  have d7 : x7 = .bool true := hd 7 (by kernel_rfl)
                  have d11 : x11 = .int .i64 y1 := hd 11 (by kernel_rfl)
                  have d13 : x13 = .int .i64 e2 := hd 13 (by kernel_rfl)
                  clear hd
                  subst d7
                  subst d11
                  subst d13
                  have g1 := hc2
                  simp only [Act.put, List.setIfInBounds_toArray, List.set_cons_zero, List.set_cons_succ] at hK
                  go_simp
                  first | exact hK.out _ _ trivial hS rfl | (have hk := hK.out _ _ trivial hS rfl; revert hk; go_simp)
                case io20ttx15 =>
                  intro k1 w1 hk0 hk1 hb1 hS hd KK hK
                  have d7 : x7 = .bool true := hd 7 (by kernel_rfl)
                  have d14 : x14 = .bool true := hd 14 (by kernel_rfl)
                  clear hd
                  subst d7
                  subst d14
                  simp only [Act.put, List.setIfInBounds_toArray, List.set_cons_zero, List.set_cons_succ] at hK
                  go_simp
                  first | exact hK.out _ _ trivial hS rfl | (have hk := hK.out _ _ trivial hS rfl; revert hk; go_simp)
                case iend20tt =>
                  intro w1 hb1 hS hR
                  have d0 : x0 = .pointer (some ⟨Qc, 0, none⟩) := hR 0 (by decide)
                  have d1 : x1 = .int .i64 e1 := hR 1 (by decide)
                  have d2 : x2 = .pointer (some ⟨p, y * 4, none⟩) := hR 2 (by decide)
                  have d3 : x3 = .pointer (some ⟨p, y * 4, none⟩) := hR 3 (by decide)
                  have d4 : x4 = .pointer (some ⟨p, y * 4 + 1, none⟩) := hR 4 (by decide)
                  have d5 : x5 = .int .i64 y2 := hR 5 (by decide)
                  have d6 : x6 = .bool true := hR 6 (by decide)
                  have d7 : x7 = .bool true := hR 7 (by decide)
                  have d8 : x8 = .pointer (some ⟨p, y * 4, none⟩) := hR 8 (by decide)
                  have d9 : x9 = .pointer (some ⟨p, y * 4, none⟩) := hR 9 (by decide)
                  have d10 : x10 = .pointer (some ⟨p, y * 4, none⟩) := hR 10 (by decide)
                  have d11 : x11 = .int .i64 y1 := hR 11 (by decide)
                  have d12 : x12 = .pointer (some ⟨Qc, 1, none⟩) := hR 12 (by decide)
                  have d13 : x13 = .int .i64 e2 := hR 13 (by decide)
                  have d14 : x14 = .bool true := hR 14 (by decide)
                  have d15 : x15 = .bool true := hR 15 (by decide)
                  clear hR
                  subst d0
                  subst d1
                  subst d2
                  subst d3
                  subst d4
                  subst d5
                  subst d6
                  subst d7
                  subst d8
                  subst d9
                  subst d10
                  subst d11
                  subst d12
                  subst d13
                  subst d14
                  subst d15
                  try simp only [putAll, Act.put, List.setIfInBounds_toArray, List.set_cons_zero, List.set_cons_succ]
                  have F12 := Lib.hid hS
                  clear hS hb1 F11
                  obtain ⟨wk, rfl⟩ : ∃ x : World, x = w1 := ⟨_, rfl⟩
                  have hmt : meets ⟨e1, e2, e3, e4⟩ (L y) = true := by have h9 := HME.out; rw [HMG.out, HX.out] at h9; rw [h9, decide_eq_true hc1, decide_eq_true hc2]; rfl
                  obtain ⟨ht1, ht2⟩ := HTY.out hmt
                  have HT1 := Lib.hid ht1
                  have HT2 := Lib.hid ht2
                  clear ht1 ht2 hmt
                  have hbl := F12.out.fr.hlo
                  have HTB := Lib.hid (show TC ≤ 1000000 by omega)
                  have z0 := F12.out.fr.c 4 0 rfl rfl
                  have z1 := F12.out.fr.c 4 1 rfl rfl
                  have z2 := F12.out.fr.c 4 2 rfl rfl
                  have z3 := F12.out.fr.c 4 3 rfl rfl
                  go_wp2_with (at_builtin; refine appendB w.heap.size u10 TC TF ⟨e1, e2, e3, e4⟩ _ _ _ rfl rfl rfl F12.out.own rfl HTB.out hbl ?_; intro g9 cap' w8 hown hgr hob; have F13 := Lib.hid ((F12.out.grew hgr hown (fun g hg => by rcases hob with h | h; exact .inl (by injection hg with hg; rw [← hg]; exact h); exact .inr (by injection hg with hg; rw [← hg]; exact h))).less (.cons_cons _ (.cons_cons _ (.cons_cons _ (.cons_cons _ (List.nil_sublist _)))))); clear hown hgr hob F12 z0 z1 z2 z3)
                  go_roundw
                  case rel => exact ⟨j + 1, by first | rfl | go_num, by omega, by rw [HT1.out, HT2.out]; exact F13⟩
                  case measure => (simp only [intOf]; omega)
              · skip
                refine wp_region_inv (w := W11) 16 (fun _ _ => True) (fun _ W => FrT w.heap.size w W [(w.heap.size, [.slice (some ⟨lb, lo, none⟩) n c]), (p, flatB4 (PS L g r) n), (o, ordV g n), (Q, [.pointer (some ⟨p, y * 4, none⟩)]), (Qc, [.int .i64 e1, .int .i64 e2, .int .i64 e3, .int .i64 e4])] (mkM Ds) 36 4 u10 TC TF) [] [(fun u _ => u = .pointer (some ⟨Qc, 0, none⟩)), (fun u _ => u = .int .i64 e1), (fun u _ => u = .pointer (some ⟨p, y * 4, none⟩)), (fun u _ => u = .pointer (some ⟨p, y * 4, none⟩)), (fun u _ => u = .pointer (some ⟨p, y * 4 + 1, none⟩)), (fun u _ => u = .int .i64 y2), (fun u _ => u = .bool true), (fun u _ => u = .bool true), (fun u _ => u = .pointer (some ⟨p, y * 4, none⟩)), (fun u _ => u = .pointer (some ⟨p, y * 4, none⟩)), (fun u _ => u = .pointer (some ⟨p, y * 4, none⟩)), (fun u _ => u = .int .i64 y1), (fun u _ => u = .pointer (some ⟨Qc, 1, none⟩)), (fun u _ => u = .int .i64 e2), (fun u _ => u = .bool false), (fun u _ => u = .bool false)] [some 63, some 64, some 65, some 66, some 67, some 68, some 69, some 70, some 71, some 72, some 73, some 74, some 75, some 76, some 77, some 78] (by kernel_rfl) (by kernel_rfl) rfl (by kernel_rfl) (by kernel_rfl) (by decide) (by decide) (fun _ _ => trivial) trivial (F11.out.next (Below.drew (Below.refl _ _))) (BorneAll.at (.cons (borne_eq _) (.cons (borne_eq _) (.cons (borne_eq _) (.cons (borne_eq _) (.cons (borne_eq _) (.cons (borne_eq _) (.cons (borne_eq _) (.cons (borne_eq _) (.cons (borne_eq _) (.cons (borne_eq _) (.cons (borne_eq _) (.cons (borne_eq _) (.cons (borne_eq _) (.cons (borne_eq _) (.cons (borne_eq _) (.cons (borne_eq _) .nil))))))))))))))))) (fun vs b hvl hvb => ?_)
                obtain ⟨x0, x1, x2, x3, x4, x5, x6, x7, x8, x9, x10, x11, x12, x13, x14, x15, rfl⟩ : ∃ x0 x1 x2 x3 x4 x5 x6 x7 x8 x9 x10 x11 x12 x13 x14 x15, vs = [x0, x1, x2, x3, x4, x5, x6, x7, x8, x9, x10, x11, x12, x13, x14, x15] := ld16 hvl
                clear hvl
                simp only [putAll, Act.put, List.setIfInBounds_toArray, List.set_cons_zero, List.set_cons_succ] at hvb
                subst hvb
                refine ⟨(.snoc (.snoc (.snoc (.snoc (.snoc (.snoc (.snoc (.snoc (.snoc (.snoc (.snoc (.snoc (.snoc (.snoc (.snoc (.snoc .zero (InvOb.intro (d := (some 63)) (r := fun u _ => u = .pointer (some ⟨Qc, 0, none⟩)) 0 0 rfl rfl rfl (by kernel_rfl) (by kernel_rfl) rfl ?io20tfx0)) (InvOb.intro (d := (some 64)) (r := fun u _ => u = .int .i64 e1) 0 0 rfl rfl rfl (by kernel_rfl) (by kernel_rfl) rfl ?io20tfx1)) (InvOb.intro (d := (some 65)) (r := fun u _ => u = .pointer (some ⟨p, y * 4, none⟩)) 0 0 rfl rfl rfl (by kernel_rfl) (by kernel_rfl) rfl ?io20tfx2)) (InvOb.intro (d := (some 66)) (r := fun u _ => u = .pointer (some ⟨p, y * 4, none⟩)) 0 0 rfl rfl rfl (by kernel_rfl) (by kernel_rfl) rfl ?io20tfx3)) (InvOb.intro (d := (some 67)) (r := fun u _ => u = .pointer (some ⟨p, y * 4 + 1, none⟩)) 0 0 rfl rfl rfl (by kernel_rfl) (by kernel_rfl) rfl ?io20tfx4)) (InvOb.intro (d := (some 68)) (r := fun u _ => u = .int .i64 y2) 0 0 rfl rfl rfl (by kernel_rfl) (by kernel_rfl) rfl ?io20tfx5)) (InvOb.intro (d := (some 69)) (r := fun u _ => u = .bool true) 0 0 rfl rfl rfl (by kernel_rfl) (by kernel_rfl) rfl ?io20tfx6)) (InvOb.intro (d := (some 70)) (r := fun u _ => u = .bool true) 0 0 rfl rfl rfl (by kernel_rfl) (by kernel_rfl) rfl ?io20tfx7)) (InvOb.intro (d := (some 71)) (r := fun u _ => u = .pointer (some ⟨p, y * 4, none⟩)) 0 0 rfl rfl rfl (by kernel_rfl) (by kernel_rfl) rfl ?io20tfx8)) (InvOb.intro (d := (some 72)) (r := fun u _ => u = .pointer (some ⟨p, y * 4, none⟩)) 0 0 rfl rfl rfl (by kernel_rfl) (by kernel_rfl) rfl ?io20tfx9)) (InvOb.intro (d := (some 73)) (r := fun u _ => u = .pointer (some ⟨p, y * 4, none⟩)) 0 0 rfl rfl rfl (by kernel_rfl) (by kernel_rfl) rfl ?io20tfx10)) (InvOb.intro (d := (some 74)) (r := fun u _ => u = .int .i64 y1) 0 0 rfl rfl rfl (by kernel_rfl) (by kernel_rfl) rfl ?io20tfx11)) (InvOb.intro (d := (some 75)) (r := fun u _ => u = .pointer (some ⟨Qc, 1, none⟩)) 0 0 rfl rfl rfl (by kernel_rfl) (by kernel_rfl) rfl ?io20tfx12)) (InvOb.intro (d := (some 76)) (r := fun u _ => u = .int .i64 e2) 0 0 rfl rfl rfl (by kernel_rfl) (by kernel_rfl) rfl ?io20tfx13)) (InvOb.intro (d := (some 77)) (r := fun u _ => u = .bool false) 0 0 rfl rfl rfl (by kernel_rfl) (by kernel_rfl) rfl ?io20tfx14)) (InvOb.intro (d := (some 78)) (r := fun u _ => u = .bool false) 0 0 rfl rfl rfl (by kernel_rfl) (by kernel_rfl) rfl ?io20tfx15)), ?iend20tf⟩
                case io20tfx0 =>
                  intro k1 w1 hk0 hk1 hb1 hS hd KK hK
                  clear hd
                  simp only [Act.put, List.setIfInBounds_toArray, List.set_cons_zero, List.set_cons_succ] at hK
                  go_simp
                  first | exact hK.out _ _ trivial hS rfl | (have hk := hK.out _ _ trivial hS rfl; revert hk; go_simp)
                case io20tfx1 =>
                  intro k1 w1 hk0 hk1 hb1 hS hd KK hK
                  have d0 : x0 = .pointer (some ⟨Qc, 0, none⟩) := hd 0 (by kernel_rfl)
                  clear hd
                  subst d0
                  have k0 := hS.fr.c 4 0 rfl rfl
                  simp only [Act.put, List.setIfInBounds_toArray, List.set_cons_zero, List.set_cons_succ] at hK
                  go_simp
                  first | exact hK.out _ _ trivial hS rfl | (have hk := hK.out _ _ trivial hS rfl; revert hk; go_simp)
                case io20tfx2 =>
                  intro k1 w1 hk0 hk1 hb1 hS hd KK hK
                  clear hd
                  have k0 := hS.fr.c 3 0 rfl rfl
                  simp only [Act.put, List.setIfInBounds_toArray, List.set_cons_zero, List.set_cons_succ] at hK
                  go_simp
                  first | exact hK.out _ _ trivial hS rfl | (have hk := hK.out _ _ trivial hS rfl; revert hk; go_simp)
                case io20tfx3 =>
                  intro k1 w1 hk0 hk1 hb1 hS hd KK hK
                  have d2 : x2 = .pointer (some ⟨p, y * 4, none⟩) := hd 2 (by kernel_rfl)
                  clear hd
                  subst d2
                  simp only [Act.put, List.setIfInBounds_toArray, List.set_cons_zero, List.set_cons_succ] at hK
                  go_simp
                  first | exact hK.out _ _ trivial hS rfl | (have hk := hK.out _ _ trivial hS rfl; revert hk; go_simp)
                case io20tfx4 =>
                  intro k1 w1 hk0 hk1 hb1 hS hd KK hK
                  have d3 : x3 = .pointer (some ⟨p, y * 4, none⟩) := hd 3 (by kernel_rfl)
                  clear hd
                  subst d3
                  simp only [Act.put, List.setIfInBounds_toArray, List.set_cons_zero, List.set_cons_succ] at hK
                  go_simp
                  first | exact hK.out _ _ trivial hS rfl | (have hk := hK.out _ _ trivial hS rfl; revert hk; go_simp)
                case io20tfx5 =>
                  intro k1 w1 hk0 hk1 hb1 hS hd KK hK
                  have d4 : x4 = .pointer (some ⟨p, y * 4 + 1, none⟩) := hd 4 (by kernel_rfl)
                  clear hd
                  subst d4
                  have k0 := hS.fr.c 1 _ rfl HG1.out
                  simp only [Act.put, List.setIfInBounds_toArray, List.set_cons_zero, List.set_cons_succ] at hK
                  go_simp
                  first | exact hK.out _ _ trivial hS rfl | (have hk := hK.out _ _ trivial hS rfl; revert hk; go_simp)
                case io20tfx6 =>
                  intro k1 w1 hk0 hk1 hb1 hS hd KK hK
                  have d1 : x1 = .int .i64 e1 := hd 1 (by kernel_rfl)
                  have d5 : x5 = .int .i64 y2 := hd 5 (by kernel_rfl)
                  clear hd
                  subst d1
                  subst d5
                  have g1 := hc1
                  simp only [Act.put, List.setIfInBounds_toArray, List.set_cons_zero, List.set_cons_succ] at hK
                  go_simp
                  first | exact hK.out _ _ trivial hS rfl | (have hk := hK.out _ _ trivial hS rfl; revert hk; go_simp)
                case io20tfx7 =>
                  intro k1 w1 hk0 hk1 hb1 hS hd KK hK
                  have d6 : x6 = .bool true := hd 6 (by kernel_rfl)
                  clear hd
                  subst d6
                  simp only [Act.put, List.setIfInBounds_toArray, List.set_cons_zero, List.set_cons_succ] at hK
                  go_simp
                  first | exact hK.out _ _ trivial hS rfl | (have hk := hK.out _ _ trivial hS rfl; revert hk; go_simp)
                case io20tfx8 =>
                  intro k1 w1 hk0 hk1 hb1 hS hd KK hK
                  have d7 : x7 = .bool true := hd 7 (by kernel_rfl)
                  clear hd
                  subst d7
                  have k0 := hS.fr.c 3 0 rfl rfl
                  simp only [Act.put, List.setIfInBounds_toArray, List.set_cons_zero, List.set_cons_succ] at hK
                  go_simp
                  first | exact hK.out _ _ trivial hS rfl | (have hk := hK.out _ _ trivial hS rfl; revert hk; go_simp)
                case io20tfx9 =>
                  intro k1 w1 hk0 hk1 hb1 hS hd KK hK
                  have d7 : x7 = .bool true := hd 7 (by kernel_rfl)
                  have d8 : x8 = .pointer (some ⟨p, y * 4, none⟩) := hd 8 (by kernel_rfl)
                  clear hd
                  subst d7
                  subst d8
                  simp only [Act.put, List.setIfInBounds_toArray, List.set_cons_zero, List.set_cons_succ] at hK
                  go_simp
                  first | exact hK.out _ _ trivial hS rfl | (have hk := hK.out _ _ trivial hS rfl; revert hk; go_simp)
                case io20tfx10 =>
                  intro k1 w1 hk0 hk1 hb1 hS hd KK hK
                  have d7 : x7 = .bool true := hd 7 (by kernel_rfl)
                  have d9 : x9 = .pointer (some ⟨p, y * 4, none⟩) := hd 9 (by kernel_rfl)
                  clear hd
                  subst d7
                  subst d9
                  simp only [Act.put, List.setIfInBounds_toArray, List.set_cons_zero, List.set_cons_succ] at hK
                  go_simp
                  first | exact hK.out _ _ trivial hS rfl | (have hk := hK.out _ _ trivial hS rfl; revert hk; go_simp)
                case io20tfx11 =>
                  intro k1 w1 hk0 hk1 hb1 hS hd KK hK
                  have d7 : x7 = .bool true := hd 7 (by kernel_rfl)
                  have d10 : x10 = .pointer (some ⟨p, y * 4, none⟩) := hd 10 (by kernel_rfl)
                  clear hd
                  subst d7
                  subst d10
                  have k0 := hS.fr.c 1 _ rfl HG0.out
                  simp only [Act.put, List.setIfInBounds_toArray, List.set_cons_zero, List.set_cons_succ] at hK
                  go_simp
                  first | exact hK.out _ _ trivial hS rfl | (have hk := hK.out _ _ trivial hS rfl; revert hk; go_simp)
                case io20tfx12 =>
                  intro k1 w1 hk0 hk1 hb1 hS hd KK hK
                  have d7 : x7 = .bool true := hd 7 (by kernel_rfl)
                  clear hd
                  subst d7
                  simp only [Act.put, List.setIfInBounds_toArray, List.set_cons_zero, List.set_cons_succ] at hK
                  go_simp
                  first | exact hK.out _ _ trivial hS rfl | (have hk := hK.out _ _ trivial hS rfl; revert hk; go_simp)
                case io20tfx13 =>
                  intro k1 w1 hk0 hk1 hb1 hS hd KK hK
                  have d7 : x7 = .bool true := hd 7 (by kernel_rfl)
                  have d12 : x12 = .pointer (some ⟨Qc, 1, none⟩) := hd 12 (by kernel_rfl)
                  clear hd
                  subst d7
                  subst d12
                  have k0 := hS.fr.c 4 1 rfl rfl
                  simp only [Act.put, List.setIfInBounds_toArray, List.set_cons_zero, List.set_cons_succ] at hK
                  go_simp
                  first | exact hK.out _ _ trivial hS rfl | (have hk := hK.out _ _ trivial hS rfl; revert hk; go_simp)
                case io20tfx14 =>
                  intro k1 w1 hk0 hk1 hb1 hS hd KK hK
                  have d7 : x7 = .bool true := hd 7 (by kernel_rfl)
                  have d11 : x11 = .int .i64 y1 := hd 11 (by kernel_rfl)
                  have d13 : x13 = .int .i64 e2 := hd 13 (by kernel_rfl)
                  clear hd
                  subst d7
                  subst d11
                  subst d13
                  have g1 := hc2
                  simp only [Act.put, List.setIfInBounds_toArray, List.set_cons_zero, List.set_cons_succ] at hK
                  go_simp
                  first | exact hK.out _ _ trivial hS rfl | (have hk := hK.out _ _ trivial hS rfl; revert hk; go_simp)
                case io20tfx15 =>
                  intro k1 w1 hk0 hk1 hb1 hS hd KK hK
                  have d7 : x7 = .bool true := hd 7 (by kernel_rfl)
                  have d14 : x14 = .bool false := hd 14 (by kernel_rfl)
                  clear hd
                  subst d7
                  subst d14
                  simp only [Act.put, List.setIfInBounds_toArray, List.set_cons_zero, List.set_cons_succ] at hK
                  go_simp
                  first | exact hK.out _ _ trivial hS rfl | (have hk := hK.out _ _ trivial hS rfl; revert hk; go_simp)
                case iend20tf =>
                  intro w1 hb1 hS hR
                  have d0 : x0 = .pointer (some ⟨Qc, 0, none⟩) := hR 0 (by decide)
                  have d1 : x1 = .int .i64 e1 := hR 1 (by decide)
                  have d2 : x2 = .pointer (some ⟨p, y * 4, none⟩) := hR 2 (by decide)
                  have d3 : x3 = .pointer (some ⟨p, y * 4, none⟩) := hR 3 (by decide)
                  have d4 : x4 = .pointer (some ⟨p, y * 4 + 1, none⟩) := hR 4 (by decide)
                  have d5 : x5 = .int .i64 y2 := hR 5 (by decide)
                  have d6 : x6 = .bool true := hR 6 (by decide)
                  have d7 : x7 = .bool true := hR 7 (by decide)
                  have d8 : x8 = .pointer (some ⟨p, y * 4, none⟩) := hR 8 (by decide)
                  have d9 : x9 = .pointer (some ⟨p, y * 4, none⟩) := hR 9 (by decide)
                  have d10 : x10 = .pointer (some ⟨p, y * 4, none⟩) := hR 10 (by decide)
                  have d11 : x11 = .int .i64 y1 := hR 11 (by decide)
                  have d12 : x12 = .pointer (some ⟨Qc, 1, none⟩) := hR 12 (by decide)
                  have d13 : x13 = .int .i64 e2 := hR 13 (by decide)
                  have d14 : x14 = .bool false := hR 14 (by decide)
                  have d15 : x15 = .bool false := hR 15 (by decide)
                  clear hR
                  subst d0
                  subst d1
                  subst d2
                  subst d3
                  subst d4
                  subst d5
                  subst d6
                  subst d7
                  subst d8
                  subst d9
                  subst d10
                  subst d11
                  subst d12
                  subst d13
                  subst d14
                  subst d15
                  try simp only [putAll, Act.put, List.setIfInBounds_toArray, List.set_cons_zero, List.set_cons_succ]
                  have F12 := Lib.hid hS
                  clear hS hb1 F11
                  obtain ⟨wk, rfl⟩ : ∃ x : World, x = w1 := ⟨_, rfl⟩
                  have hmf : meets (PS L g r (g j)) (L y) = false := by rw [HME.out, decide_eq_false hc2, Bool.and_false]
                  obtain ⟨ht1, ht2⟩ := HTN.out hmf
                  have F13 := Lib.hid (F12.out.less (.cons_cons _ (.cons_cons _ (.cons_cons _ (.cons_cons _ (List.nil_sublist _))))))
                  rw [← HTF.out] at F13
                  have HT1 := Lib.hid ht1
                  have HT2 := Lib.hid ht2
                  clear ht1 ht2 hmf F12
                  go_wp2
                  go_roundw
                  case rel => exact ⟨j + 1, by first | rfl | go_num, by omega, by rw [HT1.out, HT2.out]; exact F13⟩
                  case measure => (simp only [intOf]; omega)
            · skip
              refine wp_region_inv (w := W11) 16 (fun _ _ => True) (fun _ W => FrT w.heap.size w W [(w.heap.size, [.slice (some ⟨lb, lo, none⟩) n c]), (p, flatB4 (PS L g r) n), (o, ordV g n), (Q, [.pointer (some ⟨p, y * 4, none⟩)]), (Qc, [.int .i64 e1, .int .i64 e2, .int .i64 e3, .int .i64 e4])] (mkM Ds) 36 4 u10 TC TF) [] [(fun u _ => u = .pointer (some ⟨Qc, 0, none⟩)), (fun u _ => u = .int .i64 e1), (fun u _ => u = .pointer (some ⟨p, y * 4, none⟩)), (fun u _ => u = .pointer (some ⟨p, y * 4, none⟩)), (fun u _ => u = .pointer (some ⟨p, y * 4 + 1, none⟩)), (fun u _ => u = .int .i64 y2), (fun u _ => u = .bool false), (fun u _ => u = .bool false), (fun u _ => u = undef), (fun u _ => u = undef), (fun u _ => u = undef), (fun u _ => u = undef), (fun u _ => u = undef), (fun u _ => u = undef), (fun u _ => u = undef), (fun u _ => u = .bool false)] [some 63, some 64, some 65, some 66, some 67, some 68, some 69, some 70, some 71, some 72, some 73, some 74, some 75, some 76, some 77, some 78] (by kernel_rfl) (by kernel_rfl) rfl (by kernel_rfl) (by kernel_rfl) (by decide) (by decide) (fun _ _ => trivial) trivial (F11.out.next (Below.drew (Below.refl _ _))) (BorneAll.at (.cons (borne_eq _) (.cons (borne_eq _) (.cons (borne_eq _) (.cons (borne_eq _) (.cons (borne_eq _) (.cons (borne_eq _) (.cons (borne_eq _) (.cons (borne_eq _) (.cons (borne_eq _) (.cons (borne_eq _) (.cons (borne_eq _) (.cons (borne_eq _) (.cons (borne_eq _) (.cons (borne_eq _) (.cons (borne_eq _) (.cons (borne_eq _) .nil))))))))))))))))) (fun vs b hvl hvb => ?_)
              obtain ⟨x0, x1, x2, x3, x4, x5, x6, x7, x8, x9, x10, x11, x12, x13, x14, x15, rfl⟩ : ∃ x0 x1 x2 x3 x4 x5 x6 x7 x8 x9 x10 x11 x12 x13 x14 x15, vs = [x0, x1, x2, x3, x4, x5, x6, x7, x8, x9, x10, x11, x12, x13, x14, x15] := ld16 hvl
              clear hvl
              simp only [putAll, Act.put, List.setIfInBounds_toArray, List.set_cons_zero, List.set_cons_succ] at hvb
              subst hvb
              refine ⟨(.snoc (.snoc (.snoc (.snoc (.snoc (.snoc (.snoc (.snoc (.snoc (.snoc (.snoc (.snoc (.snoc (.snoc (.snoc (.snoc .zero (InvOb.intro (d := (some 63)) (r := fun u _ => u = .pointer (some ⟨Qc, 0, none⟩)) 0 0 rfl rfl rfl (by kernel_rfl) (by kernel_rfl) rfl ?io20ffx0)) (InvOb.intro (d := (some 64)) (r := fun u _ => u = .int .i64 e1) 0 0 rfl rfl rfl (by kernel_rfl) (by kernel_rfl) rfl ?io20ffx1)) (InvOb.intro (d := (some 65)) (r := fun u _ => u = .pointer (some ⟨p, y * 4, none⟩)) 0 0 rfl rfl rfl (by kernel_rfl) (by kernel_rfl) rfl ?io20ffx2)) (InvOb.intro (d := (some 66)) (r := fun u _ => u = .pointer (some ⟨p, y * 4, none⟩)) 0 0 rfl rfl rfl (by kernel_rfl) (by kernel_rfl) rfl ?io20ffx3)) (InvOb.intro (d := (some 67)) (r := fun u _ => u = .pointer (some ⟨p, y * 4 + 1, none⟩)) 0 0 rfl rfl rfl (by kernel_rfl) (by kernel_rfl) rfl ?io20ffx4)) (InvOb.intro (d := (some 68)) (r := fun u _ => u = .int .i64 y2) 0 0 rfl rfl rfl (by kernel_rfl) (by kernel_rfl) rfl ?io20ffx5)) (InvOb.intro (d := (some 69)) (r := fun u _ => u = .bool false) 0 0 rfl rfl rfl (by kernel_rfl) (by kernel_rfl) rfl ?io20ffx6)) (InvOb.intro (d := (some 70)) (r := fun u _ => u = .bool false) 0 0 rfl rfl rfl (by kernel_rfl) (by kernel_rfl) rfl ?io20ffx7)) (InvOb.intro (d := (some 71)) (r := fun u _ => u = undef) 0 0 rfl rfl rfl (by kernel_rfl) (by kernel_rfl) rfl ?io20ffx8)) (InvOb.intro (d := (some 72)) (r := fun u _ => u = undef) 0 0 rfl rfl rfl (by kernel_rfl) (by kernel_rfl) rfl ?io20ffx9)) (InvOb.intro (d := (some 73)) (r := fun u _ => u = undef) 0 0 rfl rfl rfl (by kernel_rfl) (by kernel_rfl) rfl ?io20ffx10)) (InvOb.intro (d := (some 74)) (r := fun u _ => u = undef) 0 0 rfl rfl rfl (by kernel_rfl) (by kernel_rfl) rfl ?io20ffx11)) (InvOb.intro (d := (some 75)) (r := fun u _ => u = undef) 0 0 rfl rfl rfl (by kernel_rfl) (by kernel_rfl) rfl ?io20ffx12)) (InvOb.intro (d := (some 76)) (r := fun u _ => u = undef) 0 0 rfl rfl rfl (by kernel_rfl) (by kernel_rfl) rfl ?io20ffx13)) (InvOb.intro (d := (some 77)) (r := fun u _ => u = undef) 0 0 rfl rfl rfl (by kernel_rfl) (by kernel_rfl) rfl ?io20ffx14)) (InvOb.intro (d := (some 78)) (r := fun u _ => u = .bool false) 0 0 rfl rfl rfl (by kernel_rfl) (by kernel_rfl) rfl ?io20ffx15)), ?iend20ff⟩
              case io20ffx0 =>
                intro k1 w1 hk0 hk1 hb1 hS hd KK hK
                clear hd
                simp only [Act.put, List.setIfInBounds_toArray, List.set_cons_zero, List.set_cons_succ] at hK
                go_simp
                first | exact hK.out _ _ trivial hS rfl | (have hk := hK.out _ _ trivial hS rfl; revert hk; go_simp)
              case io20ffx1 =>
                intro k1 w1 hk0 hk1 hb1 hS hd KK hK
                have d0 : x0 = .pointer (some ⟨Qc, 0, none⟩) := hd 0 (by kernel_rfl)
                clear hd
                subst d0
                have k0 := hS.fr.c 4 0 rfl rfl
                simp only [Act.put, List.setIfInBounds_toArray, List.set_cons_zero, List.set_cons_succ] at hK
                go_simp
                first | exact hK.out _ _ trivial hS rfl | (have hk := hK.out _ _ trivial hS rfl; revert hk; go_simp)
              case io20ffx2 =>
                intro k1 w1 hk0 hk1 hb1 hS hd KK hK
                clear hd
                have k0 := hS.fr.c 3 0 rfl rfl
                simp only [Act.put, List.setIfInBounds_toArray, List.set_cons_zero, List.set_cons_succ] at hK
                go_simp
                first | exact hK.out _ _ trivial hS rfl | (have hk := hK.out _ _ trivial hS rfl; revert hk; go_simp)
              case io20ffx3 =>
                intro k1 w1 hk0 hk1 hb1 hS hd KK hK
                have d2 : x2 = .pointer (some ⟨p, y * 4, none⟩) := hd 2 (by kernel_rfl)
                clear hd
                subst d2
                simp only [Act.put, List.setIfInBounds_toArray, List.set_cons_zero, List.set_cons_succ] at hK
                go_simp
                first | exact hK.out _ _ trivial hS rfl | (have hk := hK.out _ _ trivial hS rfl; revert hk; go_simp)
              case io20ffx4 =>
                intro k1 w1 hk0 hk1 hb1 hS hd KK hK
                have d3 : x3 = .pointer (some ⟨p, y * 4, none⟩) := hd 3 (by kernel_rfl)
                clear hd
                subst d3
                simp only [Act.put, List.setIfInBounds_toArray, List.set_cons_zero, List.set_cons_succ] at hK
                go_simp
                first | exact hK.out _ _ trivial hS rfl | (have hk := hK.out _ _ trivial hS rfl; revert hk; go_simp)
              case io20ffx5 =>
                intro k1 w1 hk0 hk1 hb1 hS hd KK hK
                have d4 : x4 = .pointer (some ⟨p, y * 4 + 1, none⟩) := hd 4 (by kernel_rfl)
                clear hd
                subst d4
                have k0 := hS.fr.c 1 _ rfl HG1.out
                simp only [Act.put, List.setIfInBounds_toArray, List.set_cons_zero, List.set_cons_succ] at hK
                go_simp
                first | exact hK.out _ _ trivial hS rfl | (have hk := hK.out _ _ trivial hS rfl; revert hk; go_simp)
              case io20ffx6 =>
                intro k1 w1 hk0 hk1 hb1 hS hd KK hK
                have d1 : x1 = .int .i64 e1 := hd 1 (by kernel_rfl)
                have d5 : x5 = .int .i64 y2 := hd 5 (by kernel_rfl)
                clear hd
                subst d1
                subst d5
                have g1 := hc1
                simp only [Act.put, List.setIfInBounds_toArray, List.set_cons_zero, List.set_cons_succ] at hK
                go_simp
                first | exact hK.out _ _ trivial hS rfl | (have hk := hK.out _ _ trivial hS rfl; revert hk; go_simp)
              case io20ffx7 =>
                intro k1 w1 hk0 hk1 hb1 hS hd KK hK
                have d6 : x6 = .bool false := hd 6 (by kernel_rfl)
                clear hd
                subst d6
                simp only [Act.put, List.setIfInBounds_toArray, List.set_cons_zero, List.set_cons_succ] at hK
                go_simp
                first | exact hK.out _ _ trivial hS rfl | (have hk := hK.out _ _ trivial hS rfl; revert hk; go_simp)
              case io20ffx8 =>
                intro k1 w1 hk0 hk1 hb1 hS hd KK hK
                have d7 : x7 = .bool false := hd 7 (by kernel_rfl)
                clear hd
                subst d7
                simp only [Act.put, List.setIfInBounds_toArray, List.set_cons_zero, List.set_cons_succ] at hK
                go_simp
                first | exact hK.out _ _ trivial hS rfl | (have hk := hK.out _ _ trivial hS rfl; revert hk; go_simp)
              case io20ffx9 =>
                intro k1 w1 hk0 hk1 hb1 hS hd KK hK
                have d7 : x7 = .bool false := hd 7 (by kernel_rfl)
                have d8 : x8 = undef := hd 8 (by kernel_rfl)
                clear hd
                subst d7
                subst d8
                simp only [Act.put, List.setIfInBounds_toArray, List.set_cons_zero, List.set_cons_succ] at hK
                go_simp
                first | exact hK.out _ _ trivial hS rfl | (have hk := hK.out _ _ trivial hS rfl; revert hk; go_simp)
              case io20ffx10 =>
                intro k1 w1 hk0 hk1 hb1 hS hd KK hK
                have d7 : x7 = .bool false := hd 7 (by kernel_rfl)
                have d9 : x9 = undef := hd 9 (by kernel_rfl)
                clear hd
                subst d7
                subst d9
                simp only [Act.put, List.setIfInBounds_toArray, List.set_cons_zero, List.set_cons_succ] at hK
                go_simp
                first | exact hK.out _ _ trivial hS rfl | (have hk := hK.out _ _ trivial hS rfl; revert hk; go_simp)
              case io20ffx11 =>
                intro k1 w1 hk0 hk1 hb1 hS hd KK hK
                have d7 : x7 = .bool false := hd 7 (by kernel_rfl)
                have d10 : x10 = undef := hd 10 (by kernel_rfl)
                clear hd
                subst d7
                subst d10
                simp only [Act.put, List.setIfInBounds_toArray, List.set_cons_zero, List.set_cons_succ] at hK
                go_simp
                first | exact hK.out _ _ trivial hS rfl | (have hk := hK.out _ _ trivial hS rfl; revert hk; go_simp)
              case io20ffx12 =>
                intro k1 w1 hk0 hk1 hb1 hS hd KK hK
                have d7 : x7 = .bool false := hd 7 (by kernel_rfl)
                clear hd
                subst d7
                simp only [Act.put, List.setIfInBounds_toArray, List.set_cons_zero, List.set_cons_succ] at hK
                go_simp
                first | exact hK.out _ _ trivial hS rfl | (have hk := hK.out _ _ trivial hS rfl; revert hk; go_simp)
              case io20ffx13 =>
                intro k1 w1 hk0 hk1 hb1 hS hd KK hK
                have d7 : x7 = .bool false := hd 7 (by kernel_rfl)
                have d12 : x12 = undef := hd 12 (by kernel_rfl)
                clear hd
                subst d7
                subst d12
                simp only [Act.put, List.setIfInBounds_toArray, List.set_cons_zero, List.set_cons_succ] at hK
                go_simp
                first | exact hK.out _ _ trivial hS rfl | (have hk := hK.out _ _ trivial hS rfl; revert hk; go_simp)
              case io20ffx14 =>
                intro k1 w1 hk0 hk1 hb1 hS hd KK hK
                have d7 : x7 = .bool false := hd 7 (by kernel_rfl)
                have d11 : x11 = undef := hd 11 (by kernel_rfl)
                have d13 : x13 = undef := hd 13 (by kernel_rfl)
                clear hd
                subst d7
                subst d11
                subst d13
                simp only [Act.put, List.setIfInBounds_toArray, List.set_cons_zero, List.set_cons_succ] at hK
                go_simp
                first | exact hK.out _ _ trivial hS rfl | (have hk := hK.out _ _ trivial hS rfl; revert hk; go_simp)
              case io20ffx15 =>
                intro k1 w1 hk0 hk1 hb1 hS hd KK hK
                have d7 : x7 = .bool false := hd 7 (by kernel_rfl)
                have d14 : x14 = undef := hd 14 (by kernel_rfl)
                clear hd
                subst d7
                subst d14
                simp only [Act.put, List.setIfInBounds_toArray, List.set_cons_zero, List.set_cons_succ] at hK
                go_simp
                first | exact hK.out _ _ trivial hS rfl | (have hk := hK.out _ _ trivial hS rfl; revert hk; go_simp)
              case iend20ff =>
                intro w1 hb1 hS hR
                have d0 : x0 = .pointer (some ⟨Qc, 0, none⟩) := hR 0 (by decide)
                have d1 : x1 = .int .i64 e1 := hR 1 (by decide)
                have d2 : x2 = .pointer (some ⟨p, y * 4, none⟩) := hR 2 (by decide)
                have d3 : x3 = .pointer (some ⟨p, y * 4, none⟩) := hR 3 (by decide)
                have d4 : x4 = .pointer (some ⟨p, y * 4 + 1, none⟩) := hR 4 (by decide)
                have d5 : x5 = .int .i64 y2 := hR 5 (by decide)
                have d6 : x6 = .bool false := hR 6 (by decide)
                have d7 : x7 = .bool false := hR 7 (by decide)
                have d8 : x8 = undef := hR 8 (by decide)
                have d9 : x9 = undef := hR 9 (by decide)
                have d10 : x10 = undef := hR 10 (by decide)
                have d11 : x11 = undef := hR 11 (by decide)
                have d12 : x12 = undef := hR 12 (by decide)
                have d13 : x13 = undef := hR 13 (by decide)
                have d14 : x14 = undef := hR 14 (by decide)
                have d15 : x15 = .bool false := hR 15 (by decide)
                clear hR
                subst d0
                subst d1
                subst d2
                subst d3
                subst d4
                subst d5
                subst d6
                subst d7
                subst d8
                subst d9
                subst d10
                subst d11
                subst d12
                subst d13
                subst d14
                subst d15
                try simp only [putAll, Act.put, List.setIfInBounds_toArray, List.set_cons_zero, List.set_cons_succ]
                have F12 := Lib.hid hS
                clear hS hb1 F11
                obtain ⟨wk, rfl⟩ : ∃ x : World, x = w1 := ⟨_, rfl⟩
                have hmf : meets (PS L g r (g j)) (L y) = false := by rw [HME.out, decide_eq_false hc1]; rfl
                obtain ⟨ht1, ht2⟩ := HTN.out hmf
                have F13 := Lib.hid (F12.out.less (.cons_cons _ (.cons_cons _ (.cons_cons _ (.cons_cons _ (List.nil_sublist _))))))
                rw [← HTF.out] at F13
                have HT1 := Lib.hid ht1
                have HT2 := Lib.hid ht2
                clear ht1 ht2 hmf F12
                go_wp2
                go_roundw
                case rel => exact ⟨j + 1, by first | rfl | go_num, by omega, by rw [HT1.out, HT2.out]; exact F13⟩
                case measure => (simp only [intOf]; omega)
          · obtain rfl : r = j := by omega
            obtain ⟨m, hm⟩ : ∃ z, tkc (PS L g r) g (L y) r = z := ⟨_, rfl⟩
            have hml : m ≤ r := by rw [← hm]; exact tkc_le _ _ _ r
            obtain ⟨T, hT⟩ : ∃ z, tkf (PS L g r) g (L y) r = z := ⟨_, rfl⟩
            have hmem := tk_mem (PS L g r) g (L y) r
            rw [hm, hT] at hmem F10
            have hTb : ∀ i, i < m → (0 ≤ (T i).pl ∧ (T i).pl ≤ 1000000000) ∧ (0 ≤ (T i).sz ∧ (T i).sz ≤ 65536) := fun i hi => by
              have h9 := (hmem (T i)).1 ⟨i, hi, rfl⟩
              obtain ⟨q, q1, q2, _⟩ := (tkn_eq OG.out (by omega) _ _).1 h9
              have h8 := plK_bd OG.out OK.out (k := q) (by omega)
              have h7 := bufOk_iff.1 (OK.out.2 (g q) (OG.out.lt q (by omega)))
              rw [q2]
              exact ⟨⟨h8.1, by show plK L g q ≤ _; omega⟩, by show 0 ≤ (L (g q)).sz; omega, by show (L (g q)).sz ≤ _; omega⟩
            have HMEM := Lib.hid hmem
            have HTB := Lib.hid hTb
            clear hm hT hmem hTb
            go_upto_region 24 with (go_at_call 20; refine (psortB_all _ m w.heap.size T _ F10.out.own (by omega) (fun i hi => (HTB.out i hi).1)).mono ?_; rintro e w11 ⟨rfl, hgr, T2, ht1, ht2, at_, cat, rfl, hbl⟩; have hszg := hgr.size; have HBL := Lib.hid (hbl.mono hszg); have F11 := Lib.hid (F10.out.keep hgr); have HT1 := Lib.hid ht1; have HT2 := Lib.hid ht2; clear hgr ht1 ht2 hbl hszg F10)
            go_step3
            go_upto_block 6 with (first | (go_at_call 22; refine (qgaps_any (.slice at_ m cat) _ ⟨_, _, _, rfl⟩).mono ?_; rintro e w12 ⟨rfl, hf⟩; have hb12 := hf.bel; have HBL2 := Lib.hid ((HBL.out.below hb12 (Nat.le_refl _)).mono hb12.size); have F12 := Lib.hid (F11.out.join2 hf); simp only [List.cons_append, List.nil_append, List.append_nil] at F12; clear hf hb12 F11 HBL) | fail)
            obtain ⟨X1, hX1⟩ : ∃ x, w11.heap.size = x := ⟨_, rfl⟩
            rw [hX1] at F12 ⊢
            clear hX1
            obtain ⟨D, hD⟩ : ∃ D, w12.heap.size = D := ⟨_, rfl⟩
            rw [hD] at HBL2
            obtain ⟨sz, hsz⟩ : ∃ z, (L y).sz = z := ⟨_, rfl⟩
            have hyo := bufOk_iff.1 (OK.out.2 y hgr)
            rw [hsz] at hyo
            have hg2 := (flat_four (PS L g r) hgr).2.2.1
            have hg3 := (flat_four (PS L g r) hgr).2.2.2
            have hps := (PS_same L g r y).2.2
            rw [hps, hsz] at hg2
            have HG2 := Lib.hid hg2
            have HG3 := Lib.hid hg3
            have hfd := fun q hl => plK_found (L := L) OG.out hlt (T := T) (T2 := T2) (p := q) (by rw [HYG.out]; exact HMEM.out) HT1.out hl
            rw [HYG.out, hsz] at hfd
            have HFD := Lib.hid hfd
            have hT2b : ∀ i, i < m → 0 ≤ (T2 i).pl ∧ (T2 i).pl ≤ 1000000000 ∧ 0 ≤ (T2 i).sz ∧ (T2 i).sz ≤ 65536 := fun i hi => by
              obtain ⟨q, hq, e⟩ := (HT1.out (T2 i)).1 ⟨i, hi, rfl⟩
              have h9 := HTB.out q hq
              rw [e]
              exact ⟨h9.1.1, h9.1.2, h9.2.1, h9.2.2⟩
            have HT2B := Lib.hid hT2b
            obtain ⟨PV, hPV⟩ : ∃ z, plK L g r = z := ⟨_, rfl⟩
            have hput := fun (q : Int) (h : PV = q) => flatB4_put (PS L g r) (n := n) (k := y) q hgr
            have hnx := PS_next L g r
            rw [HYG.out, hPV] at hnx
            have HPUT := Lib.hid hput
            have HNX := Lib.hid hnx
            rw [hPV] at HFD
            have HPV := Lib.hid hPV
            have hpvb := plK_bd OG.out OK.out hlt
            rw [hPV] at hpvb
            have HPVB := Lib.hid hpvb
            have HSZ := Lib.hid hsz
            clear hg2 hg3 hps hfd hT2b hPV hput hnx hpvb hsz HMEM HTB
            go_wp2
            refine wpIn_wide.1 (wpIn_rangeFunc_any (n := 20) rfl (by omega) (gf := 27) (lb := #[.pointer (some ⟨X1, 0, none⟩)]) rfl trivial (enters_of Try.func27 (by kernel_rfl) rfl) D hD
              (fun _ => False) (fun cc W2 => cc = .exit 6 ∧ ∃ o9, Hid (Fr w.heap.size w W2 [(w.heap.size, [.slice (some ⟨lb, lo, none⟩) n c]), (p, flatB4 (PS L g (r + 1)) n), (o, ordV g n), (Q, [.pointer (some ⟨p, y * 4, none⟩)]), (X1, [.slice at_ m cat])] [] [] ((D + 1, o9) :: (D, .deferred (some [])) :: mkM Ds))) ?hcall ?hdone ?hstop)
            case hdone =>
              intro W2 o9 ho hf
              exact hf.elim
            case hcall =>
              intro fn R hfn hR
              have HR := Lib.hid hR
              clear hR
              have F13 := Lib.hid (((F12.out.recM hD (.deferred (some [])) rfl).frontM.recM (b := D + 1) (by simp [hD]) (.loop (R .ready none)) rfl).frontM)
              have hsz13 : ((w12.alloc (.deferred (some []))).alloc (.loop (R .ready none))).heap.size = D + 2 := by simp [hD]
              have HBL3 := Lib.hid (HBL2.out.below (B := D) (((Below.refl D w12).alloc (by omega) (.deferred (some []))).alloc (by simp [hD]) (.loop (R .ready none))) (Nat.le_refl _))
              obtain ⟨W13, hW13⟩ : ∃ W13, ((w12.alloc (.deferred (some []))).alloc (.loop (R .ready none))) = W13 := ⟨_, rfl⟩
              rw [hW13] at F13 hsz13 HBL3 ⊢
              have H0 := FrS.of F13.out (fun p hp => (Array.getElem?_eq_some_iff.1 (F13.out.obj p hp).1).1)
              rw [hsz13] at H0
              have HJ0 := Lib.hid H0
              clear hW13 F12 H0 F13 HBL2
              refine (gapsIter 19 (by omega) (D + 1) X1 m (D + 2) (Nat.le_refl _) at_ cat T2 W13 (fun k V => FrS (D + 2) w.heap.size w V [(w.heap.size, [.slice (some ⟨lb, lo, none⟩) n c]), (p, flatB4 (PS L g r) n), (o, ordV g n), (Q, [.pointer (some ⟨p, y * 4, none⟩)]), (X1, [.slice at_ m cat])] [] [] ((D + 1, .loop (R .ready none)) :: (D, .deferred (some [])) :: mkM Ds) ∧ BL V D at_ m T2 ∧ Pass T2 sz k) (fun V => Fr w.heap.size w V [(w.heap.size, [.slice (some ⟨lb, lo, none⟩) n c]), (p, flatB4 (PS L g (r + 1)) n), (o, ordV g n), (Q, [.pointer (some ⟨p, y * 4, none⟩)]), (X1, [.slice at_ m cat])] [] [] ((D + 1, .loop (R .done (some (.exit 6)))) :: (D, .deferred (some [])) :: mkM Ds)) (by omega) HT2B.out (fun k W1 W2 h hb => ⟨h.1.below hb, h.2.1.below hb (by omega), h.2.2⟩) ?hJB ?hskip ?hY ?hL ⟨HJ0.out, HBL3.out, Pass.zero _ _⟩).mono ?post
              case post =>
                rintro e V ⟨hv, h⟩
                exact ⟨hv, .inr ⟨.exit 6, ⟨rfl, _, Lib.hid h⟩, h.m 0 rfl⟩⟩
              case hJB =>
                rintro k V h
                exact ⟨h.1.sz, (h.1.fr.box _ (List.mem_of_getElem? (i := 4) rfl)).1, h.2.1.mono (by omega)⟩
              case hskip =>
                rintro k V hk hle h
                exact ⟨h.1, h.2.1, h.2.2.next (.inl hle)⟩
              case hY =>
                rintro k V1 hk hlt9 ⟨hj, hbl, hpass⟩
                obtain ⟨A, hA⟩ : ∃ z, atJ T2 k = z := ⟨_, rfl⟩
                obtain ⟨rm, hrm⟩ : ∃ z, (T2 k).pl - atJ T2 k = z := ⟨_, rfl⟩
                rw [hrm, hA]
                have hrm0 : 0 < rm := by omega
                have hchoose : sz ≤ rm → PV = A := fun h => by rw [← hA]; exact HFD.out _ (hpass.mid (by omega) hk HT2.out (by rw [hrm]; exact h))
                have hpassn : ¬ sz ≤ rm → Pass T2 sz (k + 1) := fun h => hpass.next (.inr (by omega))
                have HCH := Lib.hid hchoose
                have HPN := Lib.hid hpassn
                have HB3 := Lib.hid hbl
                clear hchoose hpassn hpass hA hrm hlt9 hbl
                refine yieldAt_roundR hfn HR.out (hj.fr.m 0 rfl) rfl ?_
                have G1 := Lib.hid (hj.fr.putM 0 rfl (.loop (R .busy none)) rfl)
                simp only [List.set_cons_zero, List.set_cons_succ] at G1
                have HJ := Lib.hid hj
                have HKP := Lib.hid (Kept.putObj (D + 2) V1 (D + 1) (.loop (R .busy none)) (by omega))
                clear hj hfn HJ0
                have HB4 := Lib.hid (HB3.out.below (below_putObj (D + 1) V1 (D + 1) (.loop (R .busy none)) (Nat.le_refl _) (by have := HJ.out.sz; omega)) (by omega))
                clear HB3
                gi_wp2
                refine ⟨HJ.out.fr.m 0 rfl, ?_⟩
                obtain ⟨V, hV⟩ : ∃ V, V1.putObj (D + 1) (.loop (R .busy none)) = V := ⟨_, rfl⟩
                rw [hV] at G1 HKP HB4 ⊢
                clear hV
                have q0 := G1.out.c 3 0 rfl rfl
                have q2 := G1.out.c 1 _ rfl HG2.out
                have q3 := G1.out.c 1 _ rfl HG3.out
                have qf := G1.out.f 1 _ rfl HG3.out
                have hnrm : ¬ rm < 0 := by omega
                by_cases hc : sz ≤ rm
                · skip
                  (repeat gi_step)
                  have HCQ := Lib.hid (HCH.out hc)
                  have G2 := G1.out.setC 1 (y * 4 + 3) rfl (flatB4_ne _ HN.out) (.int .i64 A)
                  rw [HPUT.out A HCQ.out] at G2
                  have hnx := HNX.out
                  rw [HCQ.out] at hnx
                  rw [hnx] at G2
                  simp only [List.set_cons_zero, List.set_cons_succ] at G2
                  have G3 := G2.putM 0 rfl (.loop (R .done (some (.exit 6)))) rfl
                  simp only [List.set_cons_zero, List.set_cons_succ] at G3
                  have hpl := HJ.out.bB _ (List.mem_of_getElem? (i := 1) rfl)
                  have HK2 := (HKP.out.trans (Kept.of_grown (row := some p) (Go.Lib.grownBy_setCell V p (y * 4 + 3) (.int .i64 A)) (fun e9 he => by injection he with he; rw [← he]; exact hpl))).trans (Kept.putObj (D + 2) _ (D + 1) (.loop (R .done (some (.exit 6)))) (by omega))
                  exact ⟨G2.m 0 rfl, HK2, G3⟩
                · skip
                  (repeat gi_step)
                  have G6 := G1.out.putM 0 rfl (.loop (R .ready none)) rfl
                  simp only [List.set_cons_zero, List.set_cons_succ] at G6
                  have HK3 := HKP.out.trans (Kept.putObj (D + 2) V (D + 1) (.loop (R .ready none)) (by omega))
                  have hj := HJ.out
                  have hvs : D + 2 ≤ V.heap.size := Nat.le_trans hj.sz HKP.out.1
                  have hbl5 := HB4.out.below (below_putObj (D + 1) V (D + 1) (.loop (R .ready none)) (Nat.le_refl _) (by omega)) (by omega)
                  exact ⟨G1.out.m 0 rfl, HK3, ⟨G6, hj.lS, Nat.le_trans hvs (Kept.putObj (D + 2) V (D + 1) (.loop (R .ready none)) (by omega)).1, hj.bB, hj.bO, by have h9 := hj.bM; simp only [List.mem_cons, forall_eq_or_imp] at h9 ⊢; exact h9⟩, hbl5, HPN.out (by omega)⟩
              case hL =>
                rintro V1 ⟨hj, hbl, hpass⟩
                obtain ⟨A, hA⟩ : ∃ z, atJ T2 m = z := ⟨_, rfl⟩
                have HCQ := Lib.hid (show PV = A by rw [← hA]; exact HFD.out _ (hpass.last (by omega)))
                rw [hA]
                clear hA hpass hbl
                refine yieldAt_roundR hfn HR.out (hj.fr.m 0 rfl) rfl ?_
                have G1 := Lib.hid (hj.fr.putM 0 rfl (.loop (R .busy none)) rfl)
                simp only [List.set_cons_zero, List.set_cons_succ] at G1
                have HJ := Lib.hid hj
                have HKP := Lib.hid (Kept.putObj (D + 2) V1 (D + 1) (.loop (R .busy none)) (by omega))
                clear hj hfn HJ0
                gi_wp2
                refine ⟨HJ.out.fr.m 0 rfl, ?_⟩
                obtain ⟨V, hV⟩ : ∃ V, V1.putObj (D + 1) (.loop (R .busy none)) = V := ⟨_, rfl⟩
                rw [hV] at G1 HKP ⊢
                clear hV
                have q0 := G1.out.c 3 0 rfl rfl
                have q2 := G1.out.c 1 _ rfl HG2.out
                have q3 := G1.out.c 1 _ rfl HG3.out
                have qf := G1.out.f 1 _ rfl HG3.out
                (repeat gi_step)
                skip
                have G2 := G1.out.setC 1 (y * 4 + 3) rfl (flatB4_ne _ HN.out) (.int .i64 A)
                rw [HPUT.out A HCQ.out] at G2
                have hnx := HNX.out
                rw [HCQ.out] at hnx
                rw [hnx] at G2
                simp only [List.set_cons_zero, List.set_cons_succ] at G2
                have G3 := G2.putM 0 rfl (.loop (R .done (some (.exit 6)))) rfl
                simp only [List.set_cons_zero, List.set_cons_succ] at G3
                have hpl := HJ.out.bB _ (List.mem_of_getElem? (i := 1) rfl)
                have HK2 := (HKP.out.trans (Kept.of_grown (row := some p) (Go.Lib.grownBy_setCell V p (y * 4 + 3) (.int .i64 A)) (fun e9 he => by injection he with he; rw [← he]; exact hpl))).trans (Kept.putObj (D + 2) _ (D + 1) (.loop (R .done (some (.exit 6)))) (by omega))
                exact ⟨G2.m 0 rfl, G3⟩
            case hstop =>
              rintro cc V o9 ho ⟨rfl, o8, F14⟩
              have FY := Lib.hid ((F14.out.putM 0 rfl o9 ho).less (.refl _) (.refl _) (.refl _) (List.sublist_cons_self _ _))
              try simp only [List.set_cons_zero, List.set_cons_succ] at FY
              generalize V.putObj (D + 1) o9 = V3 at *
              clear F14 F12 hD HBL2
              refine wpIn_wide.2 ?_
              go_upto_region 29 with fail
              obtain ⟨n0, n1, n2, n3⟩ := flat_four (PS L g (r + 1)) hgr
              have hat9 := PS_at L g r
              rw [HYG.out, HPV.out] at hat9
              have hv3 : (PS L g (r + 1) y).pl = PV := by rw [hat9]; rfl
              have hv2 : (PS L g (r + 1) y).sz = sz := by rw [hat9]; exact HSZ.out
              rw [hv3] at n3
              rw [hv2] at n2
              have HN2 := Lib.hid n2
              have HN3 := Lib.hid n3
              have hpk : pkK L g (r + 1) = if PK < PV + sz then PV + sz else PK := by rw [pkK, HPK.out, HPV.out, HYG.out, HSZ.out]
              have HPK2 := Lib.hid hpk
              have hpvb := HPVB.out
              have HSW := Lib.hid (show IntKind.i64.wrap (PV + sz) = PV + sz from IntWalk.i64_in _ (by omega))
              clear n0 n1 n2 n3 hat9 hv3 hv2 hpk
              by_cases hq : PK < PV + sz
              · skip
                have HQ2 := Lib.hid (show pkK L g (r + 1) = PV + sz by rw [HPK2.out, if_pos hq])
                refine wp_calmQ ?_
                have FD := FY.out.drew
                refine wp_region_J (S := fun _ => True) (S1 := fun W9 => W9.cell? ⟨Q, 0, none⟩ = some (.pointer (some ⟨p, y * 4, none⟩)) ∧ W9.cell? ⟨p, y * 4 + 3, none⟩ = some (.int .i64 PV) ∧ W9.cell? ⟨p, y * 4 + 2, none⟩ = some (.int .i64 sz)) (L := [0, 1, 2, 3, 4, 5, 6, 7, 8, 9, 10, 11]) (by kernel_rfl) trivial ⟨FD.c 3 0 rfl rfl, FD.c 1 _ rfl HN3.out, FD.c 1 _ rfl HN2.out⟩ (fun hHeld hHeld1 => ?_)
                obtain ⟨V4, hV4⟩ : ∃ x, V3.drew = x := ⟨_, rfl⟩
                rw [hV4] at FD hHeld1 ⊢
                clear hV4
                refine takeJ1 (i := 0) (dst := (some 104)) (v := .int .i64 PK) rfl rfl (by kernel_rfl) (by kernel_rfl) (by kernel_rfl) (by kernel_rfl) (fun _ _ _ h => h) (by rfl) ?hyj29un1 hHeld1 ?restj29un1
                case hyj29un1 =>
                  intro W hSw
                  go_simp
                  (try with_reducible rfl)
                try simp only [Act.put, List.setIfInBounds_toArray, List.set_cons_zero, List.set_cons_succ]
                refine takeJ1 (i := 1) (dst := (some 105)) (v := .pointer (some ⟨p, y * 4, none⟩)) rfl rfl (by kernel_rfl) (by kernel_rfl) (by kernel_rfl) (by kernel_rfl) (fun _ _ _ h => h) (by rfl) ?hyj29un2 hHeld1 ?restj29un2
                case hyj29un2 =>
                  intro W hSw
                  obtain ⟨s0, s1, s2⟩ := hSw
                  go_simp
                  (try with_reducible rfl)
                try simp only [Act.put, List.setIfInBounds_toArray, List.set_cons_zero, List.set_cons_succ]
                refine takeJ1 (i := 2) (dst := (some 106)) (v := .pointer (some ⟨p, y * 4, none⟩)) rfl rfl (by kernel_rfl) (by kernel_rfl) (by kernel_rfl) (by kernel_rfl) (fun _ _ _ h => h) (by rfl) ?hyj29un3 hHeld1 ?restj29un3
                case hyj29un3 =>
                  intro W hSw
                  go_simp
                  (try with_reducible rfl)
                try simp only [Act.put, List.setIfInBounds_toArray, List.set_cons_zero, List.set_cons_succ]
                refine takeJ1 (i := 3) (dst := (some 107)) (v := .pointer (some ⟨p, y * 4 + 3, none⟩)) rfl rfl (by kernel_rfl) (by kernel_rfl) (by kernel_rfl) (by kernel_rfl) (fun _ _ _ h => h) (by rfl) ?hyj29un4 hHeld1 ?restj29un4
                case hyj29un4 =>
                  intro W hSw
                  go_simp
                  (try with_reducible rfl)
                try simp only [Act.put, List.setIfInBounds_toArray, List.set_cons_zero, List.set_cons_succ]
                refine takeJ1 (i := 4) (dst := (some 108)) (v := .int .i64 PV) rfl rfl (by kernel_rfl) (by kernel_rfl) (by kernel_rfl) (by kernel_rfl) (fun _ _ _ h => h) (by rfl) ?hyj29un5 hHeld1 ?restj29un5
                case hyj29un5 =>
                  intro W hSw
                  obtain ⟨s0, s1, s2⟩ := hSw
                  go_simp
                  (try with_reducible rfl)
                try simp only [Act.put, List.setIfInBounds_toArray, List.set_cons_zero, List.set_cons_succ]
                refine takeJ1 (i := 5) (dst := (some 109)) (v := .pointer (some ⟨p, y * 4, none⟩)) rfl rfl (by kernel_rfl) (by kernel_rfl) (by kernel_rfl) (by kernel_rfl) (fun _ _ _ h => h) (by rfl) ?hyj29un6 hHeld1 ?restj29un6
                case hyj29un6 =>
                  intro W hSw
                  obtain ⟨s0, s1, s2⟩ := hSw
                  go_simp
                  (try with_reducible rfl)
                try simp only [Act.put, List.setIfInBounds_toArray, List.set_cons_zero, List.set_cons_succ]
                refine takeJ1 (i := 6) (dst := (some 110)) (v := .pointer (some ⟨p, y * 4, none⟩)) rfl rfl (by kernel_rfl) (by kernel_rfl) (by kernel_rfl) (by kernel_rfl) (fun _ _ _ h => h) (by rfl) ?hyj29un7 hHeld1 ?restj29un7
                case hyj29un7 =>
                  intro W hSw
                  go_simp
                  (try with_reducible rfl)
                try simp only [Act.put, List.setIfInBounds_toArray, List.set_cons_zero, List.set_cons_succ]
                refine takeJ1 (i := 7) (dst := (some 111)) (v := .pointer (some ⟨p, y * 4 + 2, none⟩)) rfl rfl (by kernel_rfl) (by kernel_rfl) (by kernel_rfl) (by kernel_rfl) (fun _ _ _ h => h) (by rfl) ?hyj29un8 hHeld1 ?restj29un8
                case hyj29un8 =>
                  intro W hSw
                  go_simp
                  (try with_reducible rfl)
                try simp only [Act.put, List.setIfInBounds_toArray, List.set_cons_zero, List.set_cons_succ]
                refine takeJ1 (i := 8) (dst := (some 112)) (v := .int .i64 sz) rfl rfl (by kernel_rfl) (by kernel_rfl) (by kernel_rfl) (by kernel_rfl) (fun _ _ _ h => h) (by rfl) ?hyj29un9 hHeld1 ?restj29un9
                case hyj29un9 =>
                  intro W hSw
                  obtain ⟨s0, s1, s2⟩ := hSw
                  go_simp
                  (try with_reducible rfl)
                try simp only [Act.put, List.setIfInBounds_toArray, List.set_cons_zero, List.set_cons_succ]
                refine takeJ1 (i := 9) (dst := (some 113)) (v := .int .i64 (PV + sz)) rfl rfl (by kernel_rfl) (by kernel_rfl) (by kernel_rfl) (by kernel_rfl) (fun _ _ _ h => h) (by rfl) ?hyj29un10 hHeld1 ?restj29un10
                case hyj29un10 =>
                  intro W hSw
                  have dx := HSW.out
                  go_simp
                  (try with_reducible rfl)
                try simp only [Act.put, List.setIfInBounds_toArray, List.set_cons_zero, List.set_cons_succ]
                refine takeJ1 (i := 10) (dst := (some 114)) (v := .int .i64 (PV + sz)) rfl rfl (by kernel_rfl) (by kernel_rfl) (by kernel_rfl) (by kernel_rfl) (fun _ _ _ h => h) (by rfl) ?hyj29un11 hHeld1 ?restj29un11
                case hyj29un11 =>
                  intro W hSw
                  have g1 : max PK (PV + sz) = PV + sz := by omega
                  go_simp
                  (try with_reducible rfl)
                try simp only [Act.put, List.setIfInBounds_toArray, List.set_cons_zero, List.set_cons_succ]
                refine takeJ1 (i := 11) (dst := (some 3)) (v := .int .i64 (PV + sz)) rfl rfl (by kernel_rfl) (by kernel_rfl) (by kernel_rfl) (by kernel_rfl) (fun _ _ _ h => h) (by rfl) ?hyj29un12 hHeld1 ?restj29un12
                case hyj29un12 =>
                  intro W hSw
                  go_simp
                  (try with_reducible rfl)
                try simp only [Act.put, List.setIfInBounds_toArray, List.set_cons_zero, List.set_cons_succ]
                refine doneJ (by kernel_rfl) ?_
                (try dsimp only)
                have F15 := Lib.hid (FD.less (.cons_cons _ (.cons_cons _ (.cons_cons _ (List.nil_sublist _)))) (.refl _) (.refl _) (.refl _))
                clear FD FY hHeld hHeld1
                (try simp only [Exit.noGoto_normal, Exit.inBlock, Exit.then])
                (first | refine ‹∀ (a : Act) (w : World), Code.wp _ _ _ a w → _ a w› _ _ ?_ | skip)
                go_wp2
                refine ⟨⟨⟨r + 1, D :: Ds, by omega, by first | rfl | (show Value.int .i64 _ = _; go_num), by rw [HQ2.out]; rfl, rfl, F15⟩, rfl⟩, ?_⟩
                show n - _ < n - _
                simp [slotsOf, intOf]
                omega
              · skip
                have HQ2 := Lib.hid (show pkK L g (r + 1) = PK by rw [HPK2.out, if_neg hq])
                refine wp_calmQ ?_
                have FD := FY.out.drew
                refine wp_region_J (S := fun _ => True) (S1 := fun W9 => W9.cell? ⟨Q, 0, none⟩ = some (.pointer (some ⟨p, y * 4, none⟩)) ∧ W9.cell? ⟨p, y * 4 + 3, none⟩ = some (.int .i64 PV) ∧ W9.cell? ⟨p, y * 4 + 2, none⟩ = some (.int .i64 sz)) (L := [0, 1, 2, 3, 4, 5, 6, 7, 8, 9, 10, 11]) (by kernel_rfl) trivial ⟨FD.c 3 0 rfl rfl, FD.c 1 _ rfl HN3.out, FD.c 1 _ rfl HN2.out⟩ (fun hHeld hHeld1 => ?_)
                obtain ⟨V4, hV4⟩ : ∃ x, V3.drew = x := ⟨_, rfl⟩
                rw [hV4] at FD hHeld1 ⊢
                clear hV4
                refine takeJ1 (i := 0) (dst := (some 104)) (v := .int .i64 PK) rfl rfl (by kernel_rfl) (by kernel_rfl) (by kernel_rfl) (by kernel_rfl) (fun _ _ _ h => h) (by rfl) ?hyj29dn1 hHeld1 ?restj29dn1
                case hyj29dn1 =>
                  intro W hSw
                  go_simp
                  (try with_reducible rfl)
                try simp only [Act.put, List.setIfInBounds_toArray, List.set_cons_zero, List.set_cons_succ]
                refine takeJ1 (i := 1) (dst := (some 105)) (v := .pointer (some ⟨p, y * 4, none⟩)) rfl rfl (by kernel_rfl) (by kernel_rfl) (by kernel_rfl) (by kernel_rfl) (fun _ _ _ h => h) (by rfl) ?hyj29dn2 hHeld1 ?restj29dn2
                case hyj29dn2 =>
                  intro W hSw
                  obtain ⟨s0, s1, s2⟩ := hSw
                  go_simp
                  (try with_reducible rfl)
                try simp only [Act.put, List.setIfInBounds_toArray, List.set_cons_zero, List.set_cons_succ]
                refine takeJ1 (i := 2) (dst := (some 106)) (v := .pointer (some ⟨p, y * 4, none⟩)) rfl rfl (by kernel_rfl) (by kernel_rfl) (by kernel_rfl) (by kernel_rfl) (fun _ _ _ h => h) (by rfl) ?hyj29dn3 hHeld1 ?restj29dn3
                case hyj29dn3 =>
                  intro W hSw
                  go_simp
                  (try with_reducible rfl)
                try simp only [Act.put, List.setIfInBounds_toArray, List.set_cons_zero, List.set_cons_succ]
                refine takeJ1 (i := 3) (dst := (some 107)) (v := .pointer (some ⟨p, y * 4 + 3, none⟩)) rfl rfl (by kernel_rfl) (by kernel_rfl) (by kernel_rfl) (by kernel_rfl) (fun _ _ _ h => h) (by rfl) ?hyj29dn4 hHeld1 ?restj29dn4
                case hyj29dn4 =>
                  intro W hSw
                  go_simp
                  (try with_reducible rfl)
                try simp only [Act.put, List.setIfInBounds_toArray, List.set_cons_zero, List.set_cons_succ]
                refine takeJ1 (i := 4) (dst := (some 108)) (v := .int .i64 PV) rfl rfl (by kernel_rfl) (by kernel_rfl) (by kernel_rfl) (by kernel_rfl) (fun _ _ _ h => h) (by rfl) ?hyj29dn5 hHeld1 ?restj29dn5
                case hyj29dn5 =>
                  intro W hSw
                  obtain ⟨s0, s1, s2⟩ := hSw
                  go_simp
                  (try with_reducible rfl)
                try simp only [Act.put, List.setIfInBounds_toArray, List.set_cons_zero, List.set_cons_succ]
                refine takeJ1 (i := 5) (dst := (some 109)) (v := .pointer (some ⟨p, y * 4, none⟩)) rfl rfl (by kernel_rfl) (by kernel_rfl) (by kernel_rfl) (by kernel_rfl) (fun _ _ _ h => h) (by rfl) ?hyj29dn6 hHeld1 ?restj29dn6
                case hyj29dn6 =>
                  intro W hSw
                  obtain ⟨s0, s1, s2⟩ := hSw
                  go_simp
                  (try with_reducible rfl)
                try simp only [Act.put, List.setIfInBounds_toArray, List.set_cons_zero, List.set_cons_succ]
                refine takeJ1 (i := 6) (dst := (some 110)) (v := .pointer (some ⟨p, y * 4, none⟩)) rfl rfl (by kernel_rfl) (by kernel_rfl) (by kernel_rfl) (by kernel_rfl) (fun _ _ _ h => h) (by rfl) ?hyj29dn7 hHeld1 ?restj29dn7
                case hyj29dn7 =>
                  intro W hSw
                  go_simp
                  (try with_reducible rfl)
                try simp only [Act.put, List.setIfInBounds_toArray, List.set_cons_zero, List.set_cons_succ]
                refine takeJ1 (i := 7) (dst := (some 111)) (v := .pointer (some ⟨p, y * 4 + 2, none⟩)) rfl rfl (by kernel_rfl) (by kernel_rfl) (by kernel_rfl) (by kernel_rfl) (fun _ _ _ h => h) (by rfl) ?hyj29dn8 hHeld1 ?restj29dn8
                case hyj29dn8 =>
                  intro W hSw
                  go_simp
                  (try with_reducible rfl)
                try simp only [Act.put, List.setIfInBounds_toArray, List.set_cons_zero, List.set_cons_succ]
                refine takeJ1 (i := 8) (dst := (some 112)) (v := .int .i64 sz) rfl rfl (by kernel_rfl) (by kernel_rfl) (by kernel_rfl) (by kernel_rfl) (fun _ _ _ h => h) (by rfl) ?hyj29dn9 hHeld1 ?restj29dn9
                case hyj29dn9 =>
                  intro W hSw
                  obtain ⟨s0, s1, s2⟩ := hSw
                  go_simp
                  (try with_reducible rfl)
                try simp only [Act.put, List.setIfInBounds_toArray, List.set_cons_zero, List.set_cons_succ]
                refine takeJ1 (i := 9) (dst := (some 113)) (v := .int .i64 (PV + sz)) rfl rfl (by kernel_rfl) (by kernel_rfl) (by kernel_rfl) (by kernel_rfl) (fun _ _ _ h => h) (by rfl) ?hyj29dn10 hHeld1 ?restj29dn10
                case hyj29dn10 =>
                  intro W hSw
                  have dx := HSW.out
                  go_simp
                  (try with_reducible rfl)
                try simp only [Act.put, List.setIfInBounds_toArray, List.set_cons_zero, List.set_cons_succ]
                refine takeJ1 (i := 10) (dst := (some 114)) (v := .int .i64 PK) rfl rfl (by kernel_rfl) (by kernel_rfl) (by kernel_rfl) (by kernel_rfl) (fun _ _ _ h => h) (by rfl) ?hyj29dn11 hHeld1 ?restj29dn11
                case hyj29dn11 =>
                  intro W hSw
                  have g1 : max PK (PV + sz) = PK := by omega
                  go_simp
                  (try with_reducible rfl)
                try simp only [Act.put, List.setIfInBounds_toArray, List.set_cons_zero, List.set_cons_succ]
                refine takeJ1 (i := 11) (dst := (some 3)) (v := .int .i64 PK) rfl rfl (by kernel_rfl) (by kernel_rfl) (by kernel_rfl) (by kernel_rfl) (fun _ _ _ h => h) (by rfl) ?hyj29dn12 hHeld1 ?restj29dn12
                case hyj29dn12 =>
                  intro W hSw
                  go_simp
                  (try with_reducible rfl)
                try simp only [Act.put, List.setIfInBounds_toArray, List.set_cons_zero, List.set_cons_succ]
                refine doneJ (by kernel_rfl) ?_
                (try dsimp only)
                have F15 := Lib.hid (FD.less (.cons_cons _ (.cons_cons _ (.cons_cons _ (List.nil_sublist _)))) (.refl _) (.refl _) (.refl _))
                clear FD FY hHeld hHeld1
                (try simp only [Exit.noGoto_normal, Exit.inBlock, Exit.then])
                (first | refine ‹∀ (a : Act) (w : World), Code.wp _ _ _ a w → _ a w› _ _ ?_ | skip)
                go_wp2
                refine ⟨⟨⟨r + 1, by omega, by first | rfl | (show Value.int .i64 _ = _; go_num), by rw [HQ2.out]; rfl, D :: Ds, rfl, F15⟩, by first | rfl | simp [slotsOf] | (unfold slotsOf; rfl)⟩, ?_⟩
                show n - _ < n - _
                simp [slotsOf, intOf]
                omega
      · obtain rfl : n = r := by omega
        go_wp2
        show LeavesInM Fence.wide 20 Try.prog Try.f8 _ (RetPl _ _ _ _) (mkD Ds) .returning _
        refine leaves_marks (by simp) _ _ F8.out (fun w9 F10 => ?_)
        refine ⟨.tuple #[.slice (some ⟨p, 0, none⟩) n cp, .int .i64 (pkK L g n), .int .i64 0], ?_, ?_⟩
        · rw [results_tmp3 rfl]
          rfl
        · exact ⟨p, cp, rfl, F10.less (.cons _ (.cons_cons _ (List.nil_sublist _))) (.refl _) (.refl _) (.refl _)⟩
end Go.Proofs.Ytdpnichgdfpmgaa
