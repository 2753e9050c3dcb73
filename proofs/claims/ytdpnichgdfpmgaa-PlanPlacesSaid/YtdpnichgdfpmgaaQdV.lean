/- Walks: plan.Place, refused, and of no buffers. -/
import Derived.Test.YtdpnichgdfpmgaaQdW
set_option linter.unusedVariables false
set_option linter.unusedSimpArgs false
namespace Go.Proofs.Ytdpnichgdfpmgaa
open Go.RowKit Go.Rt
attribute [local go_sem] Oper.semAt_some
set_option maxRecDepth 100000 in
set_option maxHeartbeats 4000000 in
theorem qplace_bad (al : Option Addr) (c n : Nat) (L : Nat → Buf) (w : World) (h : BL w w.heap.size al n L) (hn : n ≤ 1024) (bad : ¬ BufsOk L n) :
    Calls Try.prog 8 #[.slice al n c] w fun e w' => e = .returned (.tuple #[.slice none 0 0, .int .i64 0, .int .i64 1]) ∧ Below w.heap.size w w' := by
  have HL := Lib.hid h
  have hb9 : ¬ ∀ i, i < n → bufOk (L i) = true := fun h9 => bad ⟨hn, h9⟩
  have HB9 := Lib.hid hb9
  have F1 := Lib.hid ((Fr.start (w := w) (I := []) (by simp)).box1 (b := w.heap.size) rfl [.slice al n c] 23)
  simp only [List.nil_append] at F1
  clear h bad hb9
  refine (callsIn_wide (n := 20)).1 ?_
  refine callsIn_of_wp_marks Try.func8 rfl trivial ?_ rfl
  simp only [Try.ntmps8, List.size_toArray, List.length_cons, List.length_nil, Nat.reduceAdd, Nat.reduceSub, Array.replicate_succ, Array.replicate_zero, List.push_toArray, List.append_toArray, List.nil_append, List.cons_append]
  refine wpIn_wide.2 ?_
  go_upto_region 1 with fail
  obtain ⟨W1, hW1⟩ : ∃ x, (w.alloc (.cells #[.slice al n c] 23)) = x := ⟨_, rfl⟩
  rw [hW1] at F1 ⊢
  clear hW1
  have c0 := F1.out.c 0 0 rfl rfl
  have hn3 : ¬ (1024 : Int) < (n : Int) := by omega
  go_wp2_with (go_at_call 14; refine (qcontains_any _ c n L _ ((HL.out.below F1.out.bel (Nat.le_refl _)).mono F1.out.hlo)).mono ?_; rintro e w2 ⟨⟨B, rfl, hB⟩, hb⟩; obtain rfl : B = true := (by cases B with | true => rfl | false => exact absurd (hB.1 rfl) HB9.out); have F2 := Lib.hid (F1.out.next hb); clear hB hb F1 c0)
  show LeavesInM Fence.wide 20 Try.prog Try.f8 _ _ (mkD []) .returning _
  refine leaves_marks (B := []) (I := []) (O := []) (by simp) [] _ (F2.out.less (List.nil_sublist _) (.refl _) (.refl _) (.refl _)) (fun w9 F10 => ?_)
  refine ⟨.tuple #[.slice none 0 0, .int .i64 0, .int .i64 1], ?_, ?_⟩
  · rw [results_tmp3 rfl]
    rfl
  · exact ⟨rfl, F10.bel⟩
set_option maxRecDepth 100000 in
set_option maxHeartbeats 4000000 in
theorem qplace_none (w : World) :
    Calls Try.prog 8 #[.slice none 0 0] w fun e w' => e = .returned (.tuple #[.slice none 0 0, .int .i64 0, .int .i64 0]) ∧ Below w.heap.size w w' := by
  obtain ⟨L, hL0⟩ : ∃ L : Nat → Buf, L = fun _ => default := ⟨_, rfl⟩
  have hbl : ∀ W hi, BL W hi none 0 L := fun W hi => ⟨by decide, fun i hi => absurd hi (by omega)⟩
  have HBL := Lib.hid hbl
  have F1 := Lib.hid ((Fr.start (w := w) (I := []) (by simp)).box1 (b := w.heap.size) rfl [.slice none 0 0] 23)
  simp only [List.nil_append] at F1
  clear hbl hL0
  refine (callsIn_wide (n := 20)).1 ?_
  refine callsIn_of_wp_marks Try.func8 rfl trivial ?_ rfl
  simp only [Try.ntmps8, List.size_toArray, List.length_cons, List.length_nil, Nat.reduceAdd, Nat.reduceSub, Array.replicate_succ, Array.replicate_zero, List.push_toArray, List.append_toArray, List.nil_append, List.cons_append]
  refine wpIn_wide.2 ?_
  go_upto_region 1 with fail
  obtain ⟨W1, hW1⟩ : ∃ x, (w.alloc (.cells #[.slice none 0 0] 23)) = x := ⟨_, rfl⟩
  rw [hW1] at F1 ⊢
  clear hW1
  have c0 := F1.out.c 0 0 rfl rfl
  go_upto_region 3 with (go_at_call 14; refine (qcontains_any none 0 0 L _ (HBL.out _ _)).mono ?_; rintro e w2 ⟨⟨B, rfl, hB⟩, hb⟩; obtain rfl := hB.2 (fun i hi => absurd hi (by omega)); have F2 := Lib.hid (F1.out.next hb); clear hB hb F1 c0)
  have c0 := F2.out.c 0 0 rfl rfl
  go_upto_region 4 with (go_at_call 17; refine (qclone_none _).mono ?_; rintro e w3 ⟨rfl, rfl⟩)
  go_upto_region 5 with (at_make; (refine wpl_make 42 3 .i64 infoIntQ Try.underlying42 w3.heap.size 0 _ _ _ _ rfl rfl rfl rfl rfl rfl (by omega) (Nat.le_refl _) ?_); intro w4 hown hgrow hsz4; have F4 := Lib.hid (F2.out.next (hgrow _ (Nat.le_refl _))); have HO := Lib.hid (F2.out.bl 0 rfl).2; clear hown hgrow F2 c0)
  obtain ⟨o, ho⟩ : ∃ x, w3.heap.size = x := ⟨_, rfl⟩
  rw [ho] at hsz4 HO ⊢
  clear hsz4 ho
  go_wp2
  go_loopw [30] (fun s30 wr => s30 = .int .i64 0 ∧ wr = w4) (fun _ _ => 0)
  case atStart => exact ⟨rfl, rfl⟩
  case round =>
    obtain ⟨rfl, hwr⟩ := hrel
    have hwr := hwr.symm
    subst hwr
    go_upto_region 11 with (go_at_call 18; refine (psort_any o w.heap.size 0 0 0 none (fun _ => 0) (fun i => i) _ (SF.start (fun i hi => absurd hi (by omega)) (fun i hi => absurd hi (by omega))) ⟨by have := HO.out; omega, F4.out.c 0 0 rfl rfl, fun i hi => absurd hi (by omega), fun i hi => absurd hi (by omega), by decide⟩ (fun i hi => absurd hi (by omega))).mono ?_; rintro e w6 ⟨rfl, g2, hs, _, _⟩; have HG6 := Lib.hid hs.grown; clear hs)
    go_wp2
    go_loopw [3, 43] (fun s3 s43 wr => s3 = .int .i64 0 ∧ s43 = .int .i64 0 ∧ wr = w6) (fun _ _ _ => 0)
    case atStart => exact ⟨rfl, rfl, rfl⟩
    case round =>
      obtain ⟨rfl, rfl, hwr⟩ := hrel
      have hwr := hwr.symm
      subst hwr
      go_wp2
      have F9 := Lib.hid ((F4.out.less (B' := []) (List.nil_sublist _) (.refl _) (.refl _) (.refl _)).grownOther HG6.out (by have h1 := HO.out; omega) (by simp) (by simp))
      show LeavesInM Fence.wide 20 Try.prog Try.f8 _ _ (mkD []) .returning _
      refine leaves_marks (B := []) (I := []) (O := []) (by simp) [] _ F9.out (fun w9 F10 => ?_)
      refine ⟨.tuple #[.slice none 0 0, .int .i64 0, .int .i64 0], ?_, ?_⟩
      · rw [results_tmp3 rfl]
        rfl
      · exact ⟨rfl, F10.bel⟩
end Go.Proofs.Ytdpnichgdfpmgaa
