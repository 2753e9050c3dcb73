/- PlanPlaces: the law, walked. -/
import Derived.Test.YtdpnichgdfpmgaaQfU
import Derived.Deep.CutRange
set_option linter.unusedVariables false
set_option linter.unusedSimpArgs false
namespace Go.Proofs.Ytdpnichgdfpmgaa
open Go.RowKit Go.Rt
attribute [local go_sem] Oper.semAt_some
theorem Fr.of_below {wo w : World} (h : Below wo.heap.size wo w) : Fr wo.heap.size wo w [] [] [] [] := (Fr.start (w := wo) (I := []) (by simp)).next h
set_option maxRecDepth 100000 in
set_option maxHeartbeats 4000000 in
theorem planPlaces_any (a : Option Addr) (n c : Nat) (w : World) (h : BufsAt w w.heap.size a n) : Calls Try.prog 3 #[.slice a n c] w fun e w' => e = .returned (.bool true) ∧ Below w.heap.size w w' := by
  have hlen := h.len
  have HA := Lib.hid h
  have HB0 := Lib.hid (Below.refl w.heap.size w)
  clear h
  go_enter Try.func3, Try.ntmps3
  go_wp2
  go_loopw [3] (fun s3 wr => ∃ k : Nat, s3 = .int .i64 (k : Nat) ∧ k ≤ n ∧ Hid (Below w.heap.size w wr)) (fun s3 _ => n - (intOf s3).toNat)
  case atStart => exact ⟨0, rfl, Nat.zero_le _, HB0⟩
  case round =>
    obtain ⟨k, rfl, hk, HB⟩ := hrel
    clear HB0
    obtain ⟨wo, rfl⟩ : ∃ x : World, x = wr := ⟨_, rfl⟩
    by_cases hend : k < n ∧ k < 4
    · obtain ⟨hlt, h4⟩ := hend
      have hki : (k : Int) < (n : Int) := by omega
      have hk4 : (k : Int) < 4 := by omega
      obtain ⟨b, off, al, m, cm, L, rfl, hbw, hcl, hm, hbl⟩ := HA.out.at_ k hlt
      have hsz := HB.out.size
      have hcl : wo.cell? ⟨b, off + k, none⟩ = some (.slice al m cm) := (HB.out.cell (p := ⟨b, off + k, none⟩) (show b < w.heap.size from hbw)).trans hcl
      have hbo : b < wo.heap.size := by omega
      replace hbl : m ≤ 40 → BL wo wo.heap.size al m L := fun h9 => ((hbl h9).below HB.out (Nat.le_refl _)).mono hsz
      have HC := Lib.hid hcl
      by_cases h40 : m > 40
      · skip
        have h40i : (40 : Int) < (m : Int) := by omega
        clear HA
        go_wp2
        go_ret
        exact ⟨rfl, HB.out⟩
      have h40i : ¬ (40 : Int) < (m : Int) := by omega
      have HL := Lib.hid (hbl (by omega))
      have h40b : m ≤ 40 := by omega
      clear hbl
      by_cases hok : BufsOk L m
      · skip
        by_cases hm0 : m = 0
        · subst hm0
          have M1 : True := trivial
          have h40i : ¬ (40 : Int) < 0 := by omega
          go_wp2_with (first | (go_at_call 5; refine (qmay_any al cm 0 L _ HL.out).mono ?_; rintro e w1 ⟨⟨B, rfl, hB⟩, hb⟩; obtain rfl : B = true := hB.2 hok; have F1 := Lib.hid (Fr.of_below hb); clear hB hb hcl; have hcl : w1.cell? ⟨b, off + k, none⟩ = some (.slice al 0 cm) := (F1.out.bel.cell (p := ⟨b, off + k, none⟩) (show b < wo.heap.size from hbo)).trans HC.out) | (go_at_call 6; refine (rplace_zero al cm _).mono ?_; rintro e w2 ⟨rfl, hb⟩; have F2 := Lib.hid (F1.out.next hb); clear hb hcl F1; have hcl : w2.cell? ⟨b, off + k, none⟩ = some (.slice al 0 cm) := (F2.out.bel.cell (p := ⟨b, off + k, none⟩) (show b < wo.heap.size from hbo)).trans HC.out) | (go_at_call 7; refine (qcopy_zero al cm _).mono ?_; rintro e w3 ⟨rfl, rfl⟩) | (go_at_call 8; refine (qplace_none _).mono ?_; rintro e w4 ⟨rfl, hb⟩; have F4 := Lib.hid (F2.out.next hb); clear hb hcl F2; have hcl : w4.cell? ⟨b, off + k, none⟩ = some (.slice al 0 cm) := (F4.out.bel.cell (p := ⟨b, off + k, none⟩) (show b < wo.heap.size from hbo)).trans HC.out) | (go_at_call 9; refine (num23_any _ _).mono ?_; rintro e w9 ⟨rfl, rfl⟩) | (go_at_call 10; have hmk := M1; clear hmk M1; refine (qeq_any none none 0 0 0 L L _ ⟨by decide, fun i hi => absurd hi (by omega)⟩ ⟨by decide, fun i hi => absurd hi (by omega)⟩ (fun i hi => by first | rfl | omega)).mono ?_; rintro e w5 ⟨rfl, hb⟩; have F5 := Lib.hid (F4.out.next hb); clear hb hcl F4; have hcl : w5.cell? ⟨b, off + k, none⟩ = some (.slice al 0 cm) := (F5.out.bel.cell (p := ⟨b, off + k, none⟩) (show b < wo.heap.size from hbo)).trans HC.out) | (go_at_call 10; skip; refine (qeq_any none al 0 cm 0 L L _ ⟨by decide, fun i hi => absurd hi (by omega)⟩ ⟨by decide, fun i hi => absurd hi (by omega)⟩ (fun i hi => by first | rfl | omega)).mono ?_; rintro e w6 ⟨rfl, hb⟩; have F6 := Lib.hid (F5.out.next hb); clear hb hcl F5; have hcl : w6.cell? ⟨b, off + k, none⟩ = some (.slice al 0 cm) := (F6.out.bel.cell (p := ⟨b, off + k, none⟩) (show b < wo.heap.size from hbo)).trans HC.out) | fail)
          go_roundw
          case rel => exact ⟨k + 1, by first | rfl | go_num, by omega, Lib.hid (HB.out.trans (F6.out.bel.mono hsz))⟩
          case measure => (simp only [intOf]; omega)
        have hm1 : 1 ≤ m := by omega
        obtain ⟨g, og, _⟩ := ord_ex (fun i => (L i).fr) m
        have OG := Lib.hid og
        clear og
        go_upto_region 12 with (first | (go_at_call 5; refine (qmay_any al cm m L _ HL.out).mono ?_; rintro e w1 ⟨⟨B, rfl, hB⟩, hb⟩; obtain rfl : B = true := hB.2 hok; have F1 := Lib.hid (Fr.of_below hb); clear hB hb hcl; have hcl : w1.cell? ⟨b, off + k, none⟩ = some (.slice al m cm) := (F1.out.bel.cell (p := ⟨b, off + k, none⟩) (show b < wo.heap.size from hbo)).trans HC.out) | (go_at_call 6; refine (rplace_any al cm m L g _ ((HL.out.below F1.out.bel (Nat.le_refl _)).mono F1.out.hlo) hm1 hok OG.out).mono ?_; rintro e w2 ⟨p, cp, rfl, hf⟩; have F2 := Lib.hid (F1.out.join2 hf); simp only [List.nil_append] at F2; clear hf hcl F1; have hcl : w2.cell? ⟨b, off + k, none⟩ = some (.slice al m cm) := (F2.out.bel.cell (p := ⟨b, off + k, none⟩) (show b < wo.heap.size from hbo)).trans HC.out) | fail)
        go_upto_region 13 with (first | (go_at_call 7; refine (qcopy_any al cm m L _ ((HL.out.below F2.out.bel (Nat.le_refl _)).mono F2.out.hlo) (by omega)).mono ?_; rintro e w3 ⟨v, rfl, hown, hb⟩; obtain ⟨q, cq, rfl⟩ := shape_some hown hm1; have F3 := Lib.hid (F2.out.join2 (fr_of_own hb hown)); simp only [List.nil_append, List.cons_append] at F3; clear hown hb hcl F2; have hcl : w3.cell? ⟨b, off + k, none⟩ = some (.slice al m cm) := (F3.out.bel.cell (p := ⟨b, off + k, none⟩) (show b < wo.heap.size from hbo)).trans HC.out) | fail)
        go_upto_region 14 with (first | (go_at_call 8; refine (qplace_ok (some ⟨q, 0, none⟩) cq m L g _ (bl_ofbox (F3.out.box _ (List.mem_of_getElem? (i := 1) rfl)).1 (F3.out.box _ (List.mem_of_getElem? (i := 1) rfl)).2.2 (by omega)) hm1 hok OG.out).mono ?_; rintro e w4 ⟨x, cx, rfl, hf⟩; have F4 := Lib.hid (F3.out.join2 hf); simp only [List.nil_append, List.cons_append] at F4; clear hf hcl F3; have hcl : w4.cell? ⟨b, off + k, none⟩ = some (.slice al m cm) := (F4.out.bel.cell (p := ⟨b, off + k, none⟩) (show b < wo.heap.size from hbo)).trans HC.out) | fail)
        have M1 : True := trivial
        go_wp2_with (first | (go_at_call 9; refine (num23_any _ _).mono ?_; rintro e w9 ⟨rfl, rfl⟩) | (go_at_call 10; have hmk := M1; clear hmk M1; refine (qeq_any (some ⟨x, 0, none⟩) (some ⟨p, 0, none⟩) cx cp m (PS L g m) (PS L g m) _ (bl_ofbox (F4.out.box _ (List.mem_of_getElem? (i := 2) rfl)).1 (F4.out.box _ (List.mem_of_getElem? (i := 2) rfl)).2.2 (by omega)) (bl_ofbox (F4.out.box _ (List.mem_of_getElem? (i := 0) rfl)).1 (F4.out.box _ (List.mem_of_getElem? (i := 0) rfl)).2.2 (by omega)) (fun i hi => rfl)).mono ?_; rintro e w5 ⟨rfl, hb⟩; have F5 := Lib.hid (F4.out.next hb); clear hb hcl F4; have hcl : w5.cell? ⟨b, off + k, none⟩ = some (.slice al m cm) := (F5.out.bel.cell (p := ⟨b, off + k, none⟩) (show b < wo.heap.size from hbo)).trans HC.out) | (go_at_call 10; skip; refine (qeq_any (some ⟨q, 0, none⟩) al cq cm m L L _ (bl_ofbox (F5.out.box _ (List.mem_of_getElem? (i := 1) rfl)).1 (F5.out.box _ (List.mem_of_getElem? (i := 1) rfl)).2.2 (by omega)) ((HL.out.below F5.out.bel (Nat.le_refl _)).mono F5.out.hlo) (fun i hi => rfl)).mono ?_; rintro e w6 ⟨rfl, hb⟩; have F6 := Lib.hid (F5.out.next hb); clear hb hcl F5; have hcl : w6.cell? ⟨b, off + k, none⟩ = some (.slice al m cm) := (F6.out.bel.cell (p := ⟨b, off + k, none⟩) (show b < wo.heap.size from hbo)).trans HC.out) | fail)
        go_roundw
        case rel => exact ⟨k + 1, by first | rfl | go_num, by omega, Lib.hid (HB.out.trans (F6.out.bel.mono hsz))⟩
        case measure => (simp only [intOf]; omega)
      have hm1 : 1 ≤ m := by
        refine Nat.pos_of_ne_zero fun e => hok ⟨by omega, fun i hi => by omega⟩
      go_upto_region 13 with (first | (go_at_call 5; refine (qmay_any al cm m L _ HL.out).mono ?_; rintro e w1 ⟨⟨B, rfl, hB⟩, hb⟩; obtain rfl : B = false := (by cases B with | false => rfl | true => exact absurd (hB.1 rfl) hok); have F1 := Lib.hid (Fr.of_below hb); clear hB hb hcl; have hcl : w1.cell? ⟨b, off + k, none⟩ = some (.slice al m cm) := (F1.out.bel.cell (p := ⟨b, off + k, none⟩) (show b < wo.heap.size from hbo)).trans HC.out) | (go_at_call 7; refine (qcopy_any al cm m L _ ((HL.out.below F1.out.bel (Nat.le_refl _)).mono F1.out.hlo) (by omega)).mono ?_; rintro e w3 ⟨v, rfl, hown, hb⟩; obtain ⟨q, cq, rfl⟩ := shape_some hown hm1; have F3 := Lib.hid (F1.out.join2 (fr_of_own hb hown)); simp only [List.nil_append, List.cons_append] at F3; clear hown hb hcl F1; have hcl : w3.cell? ⟨b, off + k, none⟩ = some (.slice al m cm) := (F3.out.bel.cell (p := ⟨b, off + k, none⟩) (show b < wo.heap.size from hbo)).trans HC.out) | fail)
      have M1 : True := trivial
      go_wp2_with (first | (go_at_call 8; refine (qplace_bad (some ⟨q, 0, none⟩) cq m L _ (bl_ofbox (F3.out.box _ (List.mem_of_getElem? (i := 0) rfl)).1 (F3.out.box _ (List.mem_of_getElem? (i := 0) rfl)).2.2 (by omega)) (by omega) hok).mono ?_; rintro e w4 ⟨rfl, hb⟩; have F4 := Lib.hid (F3.out.next hb); clear hb hcl F3; have hcl : w4.cell? ⟨b, off + k, none⟩ = some (.slice al m cm) := (F4.out.bel.cell (p := ⟨b, off + k, none⟩) (show b < wo.heap.size from hbo)).trans HC.out) | (go_at_call 9; refine (num23_any _ _).mono ?_; rintro e w9 ⟨rfl, rfl⟩) | (go_at_call 10; have hmk := M1; clear hmk M1; refine (qeq_any none none 0 0 0 L L _ ⟨by decide, fun i hi => absurd hi (by omega)⟩ ⟨by decide, fun i hi => absurd hi (by omega)⟩ (fun i hi => by first | rfl | omega)).mono ?_; rintro e w5 ⟨rfl, hb⟩; have F5 := Lib.hid (F4.out.next hb); clear hb hcl F4; have hcl : w5.cell? ⟨b, off + k, none⟩ = some (.slice al m cm) := (F5.out.bel.cell (p := ⟨b, off + k, none⟩) (show b < wo.heap.size from hbo)).trans HC.out) | (go_at_call 10; skip; refine (qeq_any (some ⟨q, 0, none⟩) al cq cm m L L _ (bl_ofbox (F5.out.box _ (List.mem_of_getElem? (i := 0) rfl)).1 (F5.out.box _ (List.mem_of_getElem? (i := 0) rfl)).2.2 (by omega)) ((HL.out.below F5.out.bel (Nat.le_refl _)).mono F5.out.hlo) (fun i hi => rfl)).mono ?_; rintro e w6 ⟨rfl, hb⟩; have F6 := Lib.hid (F5.out.next hb); clear hb hcl F5; have hcl : w6.cell? ⟨b, off + k, none⟩ = some (.slice al m cm) := (F6.out.bel.cell (p := ⟨b, off + k, none⟩) (show b < wo.heap.size from hbo)).trans HC.out) | fail)
      go_roundw
      case rel => exact ⟨k + 1, by first | rfl | go_num, by omega, Lib.hid (HB.out.trans (F6.out.bel.mono hsz))⟩
      case measure => (simp only [intOf]; omega)
    · -- the end
      have HW := Lib.hid (wakes23_any wo)
      have hsz := HB.out.size
      clear HA
      by_cases hlt : k < n
      · skip
        have h4 : ¬ (k : Int) < 4 := by omega
        have hki : (k : Int) < (n : Int) := by omega
        clear hend
        go_wp2_with (go_at_call 11; refine HW.out.mono ?_; rintro e w1 ⟨rfl, hb⟩)
        go_ret
        exact ⟨rfl, HB.out.trans (hb.mono hsz)⟩
      · skip
        have hki : ¬ (k : Int) < (n : Int) := by omega
        clear hend
        go_wp2_with (go_at_call 11; refine HW.out.mono ?_; rintro e w1 ⟨rfl, hb⟩)
        go_ret
        exact ⟨rfl, HB.out.trans (hb.mono hsz)⟩
end Go.Proofs.Ytdpnichgdfpmgaa
