/- The law RngPowers, walked. -/
import Derived.Test.YtiejkdnkdmanmaaRngW9
set_option linter.unusedVariables false
set_option linter.unusedSimpArgs false
namespace Go.Proofs.Ytiejkdnkdmanmaa
open Go.RowKit Go.Rt

set_option maxHeartbeats 4000000 in
set_option maxRecDepth 100000 in
theorem rngPowers_any (a : Option Addr) (n c : Nat) (w : World) (h : AsksAt w w.heap.size a n) :
    Calls Try.prog 4 #[.slice a n c] w fun e w' => e = .returned (.bool true) ∧ Below w.heap.size w w' := by
  have hm := h.len
  go_enter Try.func4, Try.ntmps4
  go_wp2_with fail
  go_loopw [3] (fun i wr => ∃ k : Nat, k ≤ n ∧ i = .int .i64 k ∧ Below w.heap.size w wr) (fun i _ => n - (intOf i).toNat)
  case atStart => exact ⟨0, Nat.zero_le _, rfl, Below.refl _ _⟩
  case round =>
    obtain ⟨k, hk, rfl, hbel⟩ := hrel
    by_cases hend : k < n ∧ k < 15
    · obtain ⟨hlt, h20⟩ := hend
      obtain ⟨b, off, aR, xs, cR, s, m, rfl, ht⟩ := h.at_ k hlt
      replace ht := ht.below hbel
      have hsz := hbel.size
      have HGS := Lib.hid (fun hg => goodR_goodS ht hg)
      obtain ⟨hbl, c0, c1, c2, c3, c4, c5, iR, hcR, hcR2, hok, m0, m1⟩ := ht
      replace iR := iR.mono hsz
      have HB := Lib.hid hbel
      have hRl := iR.len
      have hRwf := Lib.hid iR.wf
      clear hbel h
      have E : Env .u64 24 wr.heap.size wr (wr.alloc (.cells #[.slice aR xs.length cR, .int .u64 (s.a : Nat), .int .u64 (s.b : Nat), .int .u64 (s.c : Nat), .int .u64 (s.d : Nat), .int .u64 m] 29))
          [(aR, xs)] [] [(⟨wr.heap.size, 5, none⟩, .int .u64 m), (⟨wr.heap.size, 4, none⟩, .int .u64 (s.d : Nat)), (⟨wr.heap.size, 3, none⟩, .int .u64 (s.c : Nat)), (⟨wr.heap.size, 2, none⟩, .int .u64 (s.b : Nat)), (⟨wr.heap.size, 1, none⟩, .int .u64 (s.a : Nat)), (⟨wr.heap.size, 0, none⟩, .slice aR xs.length cR)] :=
        ((((((((Env.start .u64 24 wr).addL iR).alloc _).addC (by simp [go_sem])).addC (by simp [go_sem])).addC (by simp [go_sem])).addC (by simp [go_sem])).addC (by simp [go_sem])).addC (by simp [go_sem])
      clear iR
      have HM := fun W => Lib.hid (may24_any aR xs.length cR s W hok hRl)
      by_cases h200 : 200 < xs.length
      · have hl1 : (200 : Int) < (xs.length : Int) := by omega
        go_wp2_with fail
        refine ⟨⟨k + 1, by omega, by go_num, HB.out.trans (E.bel.mono hsz)⟩, ?_⟩
        simp [intOf]; omega
      · have hl1 : (xs.length : Int) ≤ 200 := by omega
        have hl2 : ¬ (200 : Int) < (xs.length : Int) := by omega
        cases hg : goodR xs.length s
        · rw [hg] at HM
          go_wp2_with (first | (go_at_call 13; go_loud (refine (HM _).out.mono ?_; rintro e w1 ⟨rfl, hb⟩; replace E := E.next hb; clear hb; have p0 := E.cell (a := ⟨wr.heap.size, 0, none⟩) (v := .slice aR xs.length cR) (by simp); have p1 := E.cell (a := ⟨wr.heap.size, 1, none⟩) (v := .int .u64 (s.a : Nat)) (by simp); have p2 := E.cell (a := ⟨wr.heap.size, 2, none⟩) (v := .int .u64 (s.b : Nat)) (by simp); have p3 := E.cell (a := ⟨wr.heap.size, 3, none⟩) (v := .int .u64 (s.c : Nat)) (by simp); have p4 := E.cell (a := ⟨wr.heap.size, 4, none⟩) (v := .int .u64 (s.d : Nat)) (by simp); have p5 := E.cell (a := ⟨wr.heap.size, 5, none⟩) (v := .int .u64 m) (by simp))))
          refine ⟨⟨k + 1, by omega, by go_num, HB.out.trans (E.bel.mono hsz)⟩, ?_⟩
          simp [intOf]; omega
        · rw [hg] at HM
          obtain ⟨hgs, h4⟩ := HGS.out hg
          have HG0 : Hid (goodR ([] : List Int).length s = true) := Lib.hid (by unfold goodR; rw [hgs.2.1]; rfl)
          have OK := Lib.hid hok
          have hKb : (m % 64).toNat < 64 := by omega
          obtain ⟨P, hPd⟩ : ∃ P : Int, (2 : Int) ^ (m % 64).toNat = P := ⟨_, rfl⟩
          have hPb := pow_bounds _ hKb
          rw [hPd] at hPb
          obtain ⟨hP1, hP2⟩ := hPb
          have HPT : Hid (∀ x, takes P x = true) := Lib.hid (fun x => by rw [← hPd]; exact takes_pow _ hKb x)
          have hMk := mask_pow _ hKb (gX xs s) hgs.x.1 hgs.x.2
          rw [hPd] at hMk
          have hPw : IntKind.u64.wrap P = P := by rw [wrap_u64]; omega
          have hPw1 : IntKind.u64.wrap (P - 1) = P - 1 := by rw [wrap_u64]; omega
          have hES : eqSt (gS xs s) (gS xs s) = true := (eqSt_iff _ _).2 rfl
          have GS := Lib.hid hgs
          have GS1 := Lib.hid hgs.next
          have H4 := Lib.hid h4
          clear hgs hg HGS h4 hok
          go_wp2_with (first | (go_at_call 13; go_loud (refine (HM _).out.mono ?_; rintro e w1 ⟨rfl, hb⟩; replace E := E.next hb; clear hb; have p0 := E.cell (a := ⟨wr.heap.size, 0, none⟩) (v := .slice aR xs.length cR) (by simp); have p1 := E.cell (a := ⟨wr.heap.size, 1, none⟩) (v := .int .u64 (s.a : Nat)) (by simp); have p2 := E.cell (a := ⟨wr.heap.size, 2, none⟩) (v := .int .u64 (s.b : Nat)) (by simp); have p3 := E.cell (a := ⟨wr.heap.size, 3, none⟩) (v := .int .u64 (s.c : Nat)) (by simp); have p4 := E.cell (a := ⟨wr.heap.size, 4, none⟩) (v := .int .u64 (s.d : Nat)) (by simp); have p5 := E.cell (a := ⟨wr.heap.size, 5, none⟩) (v := .int .u64 m) (by simp))) | (go_at_call 15; refine (num24_any _ _).mono ?_; rintro e w' ⟨rfl, rfl⟩) | (go_at_call 16; go_loud (refine (next_good aR cR s xs _ (E.live (by simp)) hcR hcR2 GS.out H4.out).mono ?_; rintro e w2 ⟨a2, c2, rfl, hown, hb⟩; have hc2 := own_cap hown; replace E := E.rand hb (.int .u64 ((gS xs s).a : Nat)) (.int .u64 ((gS xs s).b : Nat)) (.int .u64 ((gS xs s).c : Nat)) (.int .u64 ((gS xs s).d : Nat)) 27 hown (wf_of_bounds GS1.out.2.2); clear hown hb; have p0 := E.cell (a := ⟨wr.heap.size, 0, none⟩) (v := .slice aR xs.length cR) (by simp); have p1 := E.cell (a := ⟨wr.heap.size, 1, none⟩) (v := .int .u64 (s.a : Nat)) (by simp); have p2 := E.cell (a := ⟨wr.heap.size, 2, none⟩) (v := .int .u64 (s.b : Nat)) (by simp); have p3 := E.cell (a := ⟨wr.heap.size, 3, none⟩) (v := .int .u64 (s.c : Nat)) (by simp); have p4 := E.cell (a := ⟨wr.heap.size, 4, none⟩) (v := .int .u64 (s.d : Nat)) (by simp); have p5 := E.cell (a := ⟨wr.heap.size, 5, none⟩) (v := .int .u64 m) (by simp); have r0 := E.cell (a := ⟨w2.heap.size, 0, none⟩) (v := .slice a2 (gL xs).length c2) (by simp); have r1 := E.cell (a := ⟨w2.heap.size, 1, none⟩) (v := .int .u64 ((gS xs s).a : Nat)) (by simp); have r2 := E.cell (a := ⟨w2.heap.size, 2, none⟩) (v := .int .u64 ((gS xs s).b : Nat)) (by simp); have r3 := E.cell (a := ⟨w2.heap.size, 3, none⟩) (v := .int .u64 ((gS xs s).c : Nat)) (by simp); have r4 := E.cell (a := ⟨w2.heap.size, 4, none⟩) (v := .int .u64 ((gS xs s).d : Nat)) (by simp))) | (go_at_call_has 14 (Value.int IntKind.u64 0); go_loud (refine (below_zero none 0 s [] _ OK.out (by simp) HG0.out).mono ?_; rintro e w5 ⟨a5, c5, rfl, hown, hb⟩; replace E := E.next hb; clear hown hb)) | (go_at_call_has 14 (Value.int IntKind.u64 1); go_loud (refine (below_first aR cR s xs 1 _ (E.live (by simp)) hcR hcR2 GS.out H4.out (by omega) (by omega) (takes_pow 0 (by decide) _)).mono ?_; rintro e w4 ⟨a4, c4, rfl, hown, hb⟩; have hc4 := own_cap hown; replace E := E.rand hb (.int .u64 ((gS xs s).a : Nat)) (.int .u64 ((gS xs s).b : Nat)) (.int .u64 ((gS xs s).c : Nat)) (.int .u64 ((gS xs s).d : Nat)) 27 hown (wf_of_bounds GS1.out.2.2); clear hown hb; have p0 := E.cell (a := ⟨wr.heap.size, 0, none⟩) (v := .slice aR xs.length cR) (by simp); have p1 := E.cell (a := ⟨wr.heap.size, 1, none⟩) (v := .int .u64 (s.a : Nat)) (by simp); have p2 := E.cell (a := ⟨wr.heap.size, 2, none⟩) (v := .int .u64 (s.b : Nat)) (by simp); have p3 := E.cell (a := ⟨wr.heap.size, 3, none⟩) (v := .int .u64 (s.c : Nat)) (by simp); have p4 := E.cell (a := ⟨wr.heap.size, 4, none⟩) (v := .int .u64 (s.d : Nat)) (by simp); have p5 := E.cell (a := ⟨wr.heap.size, 5, none⟩) (v := .int .u64 m) (by simp); have r0 := E.cell (a := ⟨w2.heap.size, 0, none⟩) (v := .slice a2 (gL xs).length c2) (by simp); have r1 := E.cell (a := ⟨w2.heap.size, 1, none⟩) (v := .int .u64 ((gS xs s).a : Nat)) (by simp); have r2 := E.cell (a := ⟨w2.heap.size, 2, none⟩) (v := .int .u64 ((gS xs s).b : Nat)) (by simp); have r3 := E.cell (a := ⟨w2.heap.size, 3, none⟩) (v := .int .u64 ((gS xs s).c : Nat)) (by simp); have r4 := E.cell (a := ⟨w2.heap.size, 4, none⟩) (v := .int .u64 ((gS xs s).d : Nat)) (by simp); have v0 := E.cell (a := ⟨w4.heap.size, 0, none⟩) (v := .slice a4 (gL xs).length c4) (by simp); have v1 := E.cell (a := ⟨w4.heap.size, 1, none⟩) (v := .int .u64 ((gS xs s).a : Nat)) (by simp); have v2 := E.cell (a := ⟨w4.heap.size, 2, none⟩) (v := .int .u64 ((gS xs s).b : Nat)) (by simp); have v3 := E.cell (a := ⟨w4.heap.size, 3, none⟩) (v := .int .u64 ((gS xs s).c : Nat)) (by simp); have v4 := E.cell (a := ⟨w4.heap.size, 4, none⟩) (v := .int .u64 ((gS xs s).d : Nat)) (by simp))) | (go_at_call_has 14 (Value.int IntKind.u64 P); go_loud (refine (below_first aR cR s xs P _ (E.live (by simp)) hcR hcR2 GS.out H4.out (by omega) (by omega) (HPT.out _)).mono ?_; rintro e w3 ⟨a3, c3, rfl, hown, hb⟩; have hc3 := own_cap hown; replace E := E.rand hb (.int .u64 ((gS xs s).a : Nat)) (.int .u64 ((gS xs s).b : Nat)) (.int .u64 ((gS xs s).c : Nat)) (.int .u64 ((gS xs s).d : Nat)) 27 hown (wf_of_bounds GS1.out.2.2); clear hown hb; have p0 := E.cell (a := ⟨wr.heap.size, 0, none⟩) (v := .slice aR xs.length cR) (by simp); have p1 := E.cell (a := ⟨wr.heap.size, 1, none⟩) (v := .int .u64 (s.a : Nat)) (by simp); have p2 := E.cell (a := ⟨wr.heap.size, 2, none⟩) (v := .int .u64 (s.b : Nat)) (by simp); have p3 := E.cell (a := ⟨wr.heap.size, 3, none⟩) (v := .int .u64 (s.c : Nat)) (by simp); have p4 := E.cell (a := ⟨wr.heap.size, 4, none⟩) (v := .int .u64 (s.d : Nat)) (by simp); have p5 := E.cell (a := ⟨wr.heap.size, 5, none⟩) (v := .int .u64 m) (by simp); have r0 := E.cell (a := ⟨w2.heap.size, 0, none⟩) (v := .slice a2 (gL xs).length c2) (by simp); have r1 := E.cell (a := ⟨w2.heap.size, 1, none⟩) (v := .int .u64 ((gS xs s).a : Nat)) (by simp); have r2 := E.cell (a := ⟨w2.heap.size, 2, none⟩) (v := .int .u64 ((gS xs s).b : Nat)) (by simp); have r3 := E.cell (a := ⟨w2.heap.size, 3, none⟩) (v := .int .u64 ((gS xs s).c : Nat)) (by simp); have r4 := E.cell (a := ⟨w2.heap.size, 4, none⟩) (v := .int .u64 ((gS xs s).d : Nat)) (by simp); have u0 := E.cell (a := ⟨w3.heap.size, 0, none⟩) (v := .slice a3 (gL xs).length c3) (by simp); have u1 := E.cell (a := ⟨w3.heap.size, 1, none⟩) (v := .int .u64 ((gS xs s).a : Nat)) (by simp); have u2 := E.cell (a := ⟨w3.heap.size, 2, none⟩) (v := .int .u64 ((gS xs s).b : Nat)) (by simp); have u3 := E.cell (a := ⟨w3.heap.size, 3, none⟩) (v := .int .u64 ((gS xs s).c : Nat)) (by simp); have u4 := E.cell (a := ⟨w3.heap.size, 4, none⟩) (v := .int .u64 ((gS xs s).d : Nat)) (by simp))) | (go_at_call 18; go_loud (refine (eqRand_any _ _ _ _ _ _ _ _ _ (E.live (by simp)) (E.live (by simp))).mono ?_; rintro e w6 ⟨rfl, hb⟩; replace E := E.next hb; clear hb; have p0 := E.cell (a := ⟨wr.heap.size, 0, none⟩) (v := .slice aR xs.length cR) (by simp); have p1 := E.cell (a := ⟨wr.heap.size, 1, none⟩) (v := .int .u64 (s.a : Nat)) (by simp); have p2 := E.cell (a := ⟨wr.heap.size, 2, none⟩) (v := .int .u64 (s.b : Nat)) (by simp); have p3 := E.cell (a := ⟨wr.heap.size, 3, none⟩) (v := .int .u64 (s.c : Nat)) (by simp); have p4 := E.cell (a := ⟨wr.heap.size, 4, none⟩) (v := .int .u64 (s.d : Nat)) (by simp); have p5 := E.cell (a := ⟨wr.heap.size, 5, none⟩) (v := .int .u64 m) (by simp); have r0 := E.cell (a := ⟨w2.heap.size, 0, none⟩) (v := .slice a2 (gL xs).length c2) (by simp); have r1 := E.cell (a := ⟨w2.heap.size, 1, none⟩) (v := .int .u64 ((gS xs s).a : Nat)) (by simp); have r2 := E.cell (a := ⟨w2.heap.size, 2, none⟩) (v := .int .u64 ((gS xs s).b : Nat)) (by simp); have r3 := E.cell (a := ⟨w2.heap.size, 3, none⟩) (v := .int .u64 ((gS xs s).c : Nat)) (by simp); have r4 := E.cell (a := ⟨w2.heap.size, 4, none⟩) (v := .int .u64 ((gS xs s).d : Nat)) (by simp))))
          refine ⟨⟨k + 1, by omega, by go_num, HB.out.trans ((E.alloc _).bel.mono hsz)⟩, ?_⟩
          simp [intOf]; omega
    · have HB := Lib.hid hbel
      clear hbel h
      have WK := fun W => Lib.hid (wakes24_any W)
      by_cases hlt : k < n
      · have hk15 : ¬ (k : Int) < 15 := by omega
        have hkn : (k : Int) < n := by omega
        go_wp2_with (first | (go_at_call 17; refine (wakes24_any _).mono ?_; rintro e w1 ⟨rfl, hb⟩; have HW1 := Lib.hid hb; clear hb))
        go_ret
        exact ⟨rfl, HB.out.trans (HW1.out.mono HB.out.size)⟩
      · have hkn : ¬ (k : Int) < n := by omega
        go_wp2_with (first | (go_at_call 17; refine (wakes24_any _).mono ?_; rintro e w1 ⟨rfl, hb⟩; have HW1 := Lib.hid hb; clear hb))
        go_ret
        exact ⟨rfl, HB.out.trans (HW1.out.mono HB.out.size)⟩
end Go.Proofs.Ytiejkdnkdmanmaa
