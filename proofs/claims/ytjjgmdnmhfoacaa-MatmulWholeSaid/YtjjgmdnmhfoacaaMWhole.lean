/- The law MatmulWhole, walked. -/
import Derived.Test.YtjjgmdnmhfoacaaMWhole2
import Derived.Test.YtjjgmdnmhfoacaaMTake
import Derived.Test.YtjjgmdnmhfoacaaMArg
import Derived.WalkMore
import Derived.Deep.RegionHeld3
import Derived.Deep.RegionWith
import Derived.BigRegion
import Derived.Deep.Cut
import Derived.Deep.CutBlock
import Derived.Deep.CutRange
set_option linter.unusedVariables false
set_option linter.unusedSimpArgs false
namespace Go.Proofs.Ytjjgmdnmhfoacaa
open Go.RowKit Go.Rt

set_option maxHeartbeats 8000000 in
set_option maxRecDepth 100000 in
theorem whole10_any (a : Option Addr) (n c : Nat) (w : World) (h : TwosAt w w.heap.size a n) :
    Calls Try.prog 6 #[.slice a n c] w fun e w' => e = .returned (.bool true) ∧ Below w.heap.size w w' := by
  have hm := h.len
  go_enter Try.func6, Try.ntmps6
  go_wp2_with fail
  go_loopw [3] (fun i wr => ∃ k : Nat, k ≤ n ∧ i = .int .i64 k ∧ Below w.heap.size w wr) (fun i _ => n - (intOf i).toNat)
  case atStart => exact ⟨0, Nat.zero_le _, rfl, Below.refl _ _⟩
  case round =>
    obtain ⟨k, hk, rfl, hbel⟩ := hrel
    obtain ⟨wo, rfl⟩ : ∃ wo : World, wo = wr := ⟨_, rfl⟩
    by_cases hend : k < n ∧ k < 6
    · obtain ⟨hlt, h6⟩ := hend
      obtain ⟨b, off, ⟨aA, cA, bA, dA, xsA, ysA⟩, ⟨aB, cB, bB, dB, xsB, ysB⟩, F, rfl, ht⟩ := h.at_ k hlt
      replace ht := ht.below hbel
      have hsz := hbel.size
      obtain ⟨hbl, c0, c1, c2, c3, c4, tA, tB, F0, F1⟩ := ht
      replace tA := tA.mono hsz
      replace tB := tB.mono hsz
      have HB := Lib.hid hbel
      simp only at c0 c1 c2 c3 tA tB
      have E : TEnv wo.heap.size wo (wo.alloc (.cells #[.slice aA xsA.length cA, .slice bA ysA.length dA, .slice aB xsB.length cB, .slice bB ysB.length dB, .int .i64 F] 28))
          [⟨aA, cA, bA, dA, xsA, ysA⟩, ⟨aB, cB, bB, dB, xsB, ysB⟩] [(⟨wo.heap.size, 0, none⟩, .slice aA xsA.length cA), (⟨wo.heap.size, 1, none⟩, .slice bA ysA.length dA), (⟨wo.heap.size, 2, none⟩, .slice aB xsB.length cB), (⟨wo.heap.size, 3, none⟩, .slice bB ysB.length dB), (⟨wo.heap.size, 4, none⟩, .int .i64 F)] :=
        ((((((((TEnv.start wo).addT tB).addT tA).alloc _).addC (by simp [go_sem])).addC (by simp [go_sem])).addC (by simp [go_sem])).addC (by simp [go_sem])).addC (by simp [go_sem])
      have lA := tA.sh.len
      have lB := tB.sh.len
      have mA := tA.da.len
      have mB := tB.da.len
      have HH := Lib.hid (heavy10_any aA bA aB bB xsA.length cA ysA.length dA xsB.length cB ysB.length dB F (wo.alloc (.cells #[.slice aA xsA.length cA, .slice bA ysA.length dA, .slice aB xsB.length cB, .slice bB ysB.length dB, .int .i64 F] 28)) lA mA lB mB)
      clear tA tB hbel h
      cases hhv : heavy2 xsA.length ysA.length xsB.length ysB.length with
      | true =>
        rw [hhv] at HH
        clear hhv
        go_wp2_with fail
        refine HH.out.mono ?_
        rintro e w1 ⟨rfl, hb⟩
        have HE := Lib.hid (E.bel.trans (hb.mono E.hB))
        clear hb E HH
        go_wp2_with fail
        go_ret
        exact ⟨rfl, HB.out.trans (HE.out.mono hsz)⟩
      | false =>
        rw [hhv] at HH
        have hA40 : ysA.length ≤ 40 ∧ xsA.length ≤ 8 ∧ ysB.length ≤ 40 ∧ xsB.length ≤ 8 := by
          unfold heavy2 at hhv
          simp at hhv
          omega
        obtain ⟨hA40, hA8, hB40, hB8⟩ := hA40
        clear hhv lA lB mA mB
        go_upto_region 7 with (refine HH.out.mono ?_; rintro e w1 ⟨rfl, hb⟩; replace E := E.next hb; clear hb HH c0 c1 c2 c3 c4)
        cases tA : tenB xsA ysA with
        | false =>
          as_aux_lemma =>
            have hMA : ∀ W, Below w1.heap.size w1 W → Hid (Calls Try.prog 8 #[.agg #[.slice aA xsA.length cA, .slice bA ysA.length dA]] W fun e w' => e = .returned (.bool false) ∧ Below W.heap.size W w') := by
              intro W hb
              have h := tenMay_any aA bA cA dA xsA ysA W ((E.next hb).tenN 0 rfl).sh ((E.next hb).tenN 0 rfl).da
              rw [tA] at h
              exact Lib.hid h
            have HS0 := Lib.hid (show Below w1.heap.size w1 w1 ∧ w1.cell? ⟨wo.heap.size, 0, none⟩ = some (.slice aA xsA.length cA) ∧ w1.cell? ⟨wo.heap.size, 1, none⟩ = some (.slice bA ysA.length dA) ∧ w1.cell? ⟨wo.heap.size, 2, none⟩ = some (.slice aB xsB.length cB) ∧ w1.cell? ⟨wo.heap.size, 3, none⟩ = some (.slice bB ysB.length dB) ∧ w1.cell? ⟨wo.heap.size, 0, none⟩ = some (.slice aA xsA.length cA) ∧ w1.cell? ⟨wo.heap.size, 1, none⟩ = some (.slice bA ysA.length dA) from ⟨Below.refl _ _, E.cellN 0 rfl, E.cellN 1 rfl, E.cellN 2 rfl, E.cellN 3 rfl, E.cellN 0 rfl, E.cellN 1 rfl⟩)
            have HE := Lib.hid E
            clear E
            refine wp_region_held_drew (S := (fun w' => Below w1.heap.size w1 w' ∧ w'.cell? ⟨wo.heap.size, 0, none⟩ = some (.slice aA xsA.length cA) ∧ w'.cell? ⟨wo.heap.size, 1, none⟩ = some (.slice bA ysA.length dA) ∧ w'.cell? ⟨wo.heap.size, 2, none⟩ = some (.slice aB xsB.length cB) ∧ w'.cell? ⟨wo.heap.size, 3, none⟩ = some (.slice bB ysB.length dB) ∧ w'.cell? ⟨wo.heap.size, 0, none⟩ = some (.slice aA xsA.length cA) ∧ w'.cell? ⟨wo.heap.size, 1, none⟩ = some (.slice bA ysA.length dA))) (by kernel_rfl) (held6 HS0.out (Below.drew (Below.refl _ _))) (fun hHeld => ?_)
            refine takeY (i := 0) (dst := (some 42)) (v := ?_) rfl rfl (by kernel_rfl) (by kernel_rfl) (by kernel_rfl) (fun _ _ _ h => h) (by rfl) ?hy1w0 (by assumption) ?rest1w0
            case hy1w0 => (intro w hSw; (try dsimp only at hSw); go_simp; (try with_reducible rfl))
            try simp only [Act.put, List.setIfInBounds_toArray, List.set_cons_zero, List.set_cons_succ]
            refine takeY (i := 1) (dst := (some 43)) (v := ?_) rfl rfl (by kernel_rfl) (by kernel_rfl) (by kernel_rfl) (fun _ _ _ h => h) (by rfl) ?hy1w1 (by assumption) ?rest1w1
            case hy1w1 => (intro w hSw; (try dsimp only at hSw); go_simp; (try with_reducible rfl))
            try simp only [Act.put, List.setIfInBounds_toArray, List.set_cons_zero, List.set_cons_succ]
            refine wpAnyH_ready (rs := [2]) (by kernel_rfl) (by simp) (AllReadyH.cons rfl (fun K hK => ?_) AllReadyH.nil)
            go_simp
            (go_at_call_of 8 bA; refine (hMA _ (held9B (by assumption))).out.mono ?_; rintro e w2 ⟨rfl, hb12⟩)
            (try go_wp2_with fail)
            refine hK.out _ _ (held6 (by assumption) (by assumption)) (fun hHeld => ?_)
            clear hK K
            try simp only [Act.put, List.setIfInBounds_toArray, List.set_cons_zero, List.set_cons_succ]
            refine takeY (i := 3) (dst := (some 45)) (v := ?_) rfl rfl (by kernel_rfl) (by kernel_rfl) (by kernel_rfl) (fun _ _ _ h => h) (by rfl) ?hy1w3 (by assumption) ?rest1w3
            case hy1w3 => (intro w hSw; (try dsimp only at hSw); go_simp; (try with_reducible rfl))
            try simp only [Act.put, List.setIfInBounds_toArray, List.set_cons_zero, List.set_cons_succ]
            refine takeY (i := 4) (dst := (some 46)) (v := ?_) rfl rfl (by kernel_rfl) (by kernel_rfl) (by kernel_rfl) (fun _ _ _ h => h) (by rfl) ?hy1w4 (by assumption) ?rest1w4
            case hy1w4 => (intro w hSw; (try dsimp only at hSw); go_simp; (try with_reducible rfl))
            try simp only [Act.put, List.setIfInBounds_toArray, List.set_cons_zero, List.set_cons_succ]
            refine takeN (i := 5) (dst := (some 47)) rfl rfl (by kernel_rfl) (by kernel_rfl) (by kernel_rfl) (fun _ _ _ h => h) (by rfl) (by assumption) ?_
            try simp only [Act.put, List.setIfInBounds_toArray, List.set_cons_zero, List.set_cons_succ]
            refine takeN (i := 6) (dst := (some 48)) rfl rfl (by kernel_rfl) (by kernel_rfl) (by kernel_rfl) (fun _ _ _ h => h) (by rfl) (by assumption) ?_
            try simp only [Act.put, List.setIfInBounds_toArray, List.set_cons_zero, List.set_cons_succ]
            refine takeN (i := 7) (dst := (some 49)) rfl rfl (by kernel_rfl) (by kernel_rfl) (by kernel_rfl) (fun _ _ _ h => h) (by rfl) (by assumption) ?_
            try simp only [Act.put, List.setIfInBounds_toArray, List.set_cons_zero, List.set_cons_succ]
            refine takeN (i := 8) (dst := (some 50)) rfl rfl (by kernel_rfl) (by kernel_rfl) (by kernel_rfl) (fun _ _ _ h => h) (by rfl) (by assumption) ?_
            try simp only [Act.put, List.setIfInBounds_toArray, List.set_cons_zero, List.set_cons_succ]
            refine takeY (i := 9) (dst := (some 51)) (v := ?_) rfl rfl (by kernel_rfl) (by kernel_rfl) (by kernel_rfl) (fun _ _ _ h => h) (by rfl) ?hy1w9 (by assumption) ?rest1w9
            case hy1w9 => (intro w hSw; (try dsimp only at hSw); go_simp; (try with_reducible rfl))
            try simp only [Act.put, List.setIfInBounds_toArray, List.set_cons_zero, List.set_cons_succ]
            refine takeY (i := 10) (dst := (some 52)) (v := ?_) rfl rfl (by kernel_rfl) (by kernel_rfl) (by kernel_rfl) (fun _ _ _ h => h) (by rfl) ?hy1w10 (by assumption) ?rest1w10
            case hy1w10 => (intro w hSw; (try dsimp only at hSw); go_simp; (try with_reducible rfl))
            try simp only [Act.put, List.setIfInBounds_toArray, List.set_cons_zero, List.set_cons_succ]
            refine takeN (i := 11) (dst := (some 53)) rfl rfl (by kernel_rfl) (by kernel_rfl) (by kernel_rfl) (fun _ _ _ h => h) (by rfl) (by assumption) ?_
            try simp only [Act.put, List.setIfInBounds_toArray, List.set_cons_zero, List.set_cons_succ]
            refine takeN (i := 12) (dst := (some 54)) rfl rfl (by kernel_rfl) (by kernel_rfl) (by kernel_rfl) (fun _ _ _ h => h) (by rfl) (by assumption) ?_
            try simp only [Act.put, List.setIfInBounds_toArray, List.set_cons_zero, List.set_cons_succ]
            refine takeN (i := 13) (dst := (some 55)) rfl rfl (by kernel_rfl) (by kernel_rfl) (by kernel_rfl) (fun _ _ _ h => h) (by rfl) (by assumption) ?_
            try simp only [Act.put, List.setIfInBounds_toArray, List.set_cons_zero, List.set_cons_succ]
            refine takeN (i := 14) (dst := (some 56)) rfl rfl (by kernel_rfl) (by kernel_rfl) (by kernel_rfl) (fun _ _ _ h => h) (by rfl) (by assumption) ?_
            try simp only [Act.put, List.setIfInBounds_toArray, List.set_cons_zero, List.set_cons_succ]
            refine takeN (i := 15) (dst := (some 57)) rfl rfl (by kernel_rfl) (by kernel_rfl) (by kernel_rfl) (fun _ _ _ h => h) (by rfl) (by assumption) ?_
            try simp only [Act.put, List.setIfInBounds_toArray, List.set_cons_zero, List.set_cons_succ]
            refine takeY (i := 16) (dst := (some 58)) (v := ?_) rfl rfl (by kernel_rfl) (by kernel_rfl) (by kernel_rfl) (fun _ _ _ h => h) (by rfl) ?hy1w16 (by assumption) ?rest1w16
            case hy1w16 => (intro w hSw; (try dsimp only at hSw); go_simp; (try with_reducible rfl))
            try simp only [Act.put, List.setIfInBounds_toArray, List.set_cons_zero, List.set_cons_succ]
            refine takeY (i := 17) (dst := (some 59)) (v := ?_) rfl rfl (by kernel_rfl) (by kernel_rfl) (by kernel_rfl) (fun _ _ _ h => h) (by rfl) ?hy1w17 (by assumption) ?rest1w17
            case hy1w17 => (intro w hSw; (try dsimp only at hSw); go_simp; (try with_reducible rfl))
            try simp only [Act.put, List.setIfInBounds_toArray, List.set_cons_zero, List.set_cons_succ]
            refine takeN (i := 18) (dst := (some 60)) rfl rfl (by kernel_rfl) (by kernel_rfl) (by kernel_rfl) (fun _ _ _ h => h) (by rfl) (by assumption) ?_
            try simp only [Act.put, List.setIfInBounds_toArray, List.set_cons_zero, List.set_cons_succ]
            refine takeN (i := 19) (dst := (some 61)) rfl rfl (by kernel_rfl) (by kernel_rfl) (by kernel_rfl) (fun _ _ _ h => h) (by rfl) (by assumption) ?_
            try simp only [Act.put, List.setIfInBounds_toArray, List.set_cons_zero, List.set_cons_succ]
            refine takeN (i := 20) (dst := (some 62)) rfl rfl (by kernel_rfl) (by kernel_rfl) (by kernel_rfl) (fun _ _ _ h => h) (by rfl) (by assumption) ?_
            try simp only [Act.put, List.setIfInBounds_toArray, List.set_cons_zero, List.set_cons_succ]
            refine takeN (i := 21) (dst := (some 63)) rfl rfl (by kernel_rfl) (by kernel_rfl) (by kernel_rfl) (fun _ _ _ h => h) (by rfl) (by assumption) ?_
            try simp only [Act.put, List.setIfInBounds_toArray, List.set_cons_zero, List.set_cons_succ]
            refine takeN (i := 22) (dst := (some 64)) rfl rfl (by kernel_rfl) (by kernel_rfl) (by kernel_rfl) (fun _ _ _ h => h) (by rfl) (by assumption) ?_
            try simp only [Act.put, List.setIfInBounds_toArray, List.set_cons_zero, List.set_cons_succ]
            refine takeY (i := 23) (dst := (some 65)) (v := ?_) rfl rfl (by kernel_rfl) (by kernel_rfl) (by kernel_rfl) (fun _ _ _ h => h) (by rfl) ?hy1w23 (by assumption) ?rest1w23
            case hy1w23 => (intro w hSw; (try dsimp only at hSw); go_simp; (try with_reducible rfl))
            try simp only [Act.put, List.setIfInBounds_toArray, List.set_cons_zero, List.set_cons_succ]
            refine takeY (i := 24) (dst := (some 66)) (v := ?_) rfl rfl (by kernel_rfl) (by kernel_rfl) (by kernel_rfl) (fun _ _ _ h => h) (by rfl) ?hy1w24 (by assumption) ?rest1w24
            case hy1w24 => (intro w hSw; (try dsimp only at hSw); go_simp; (try with_reducible rfl))
            try simp only [Act.put, List.setIfInBounds_toArray, List.set_cons_zero, List.set_cons_succ]
            refine takeN (i := 25) (dst := (some 67)) rfl rfl (by kernel_rfl) (by kernel_rfl) (by kernel_rfl) (fun _ _ _ h => h) (by rfl) (by assumption) ?_
            try simp only [Act.put, List.setIfInBounds_toArray, List.set_cons_zero, List.set_cons_succ]
            refine takeN (i := 26) (dst := (some 68)) rfl rfl (by kernel_rfl) (by kernel_rfl) (by kernel_rfl) (fun _ _ _ h => h) (by rfl) (by assumption) ?_
            try simp only [Act.put, List.setIfInBounds_toArray, List.set_cons_zero, List.set_cons_succ]
            refine takeN (i := 27) (dst := (some 69)) rfl rfl (by kernel_rfl) (by kernel_rfl) (by kernel_rfl) (fun _ _ _ h => h) (by rfl) (by assumption) ?_
            try simp only [Act.put, List.setIfInBounds_toArray, List.set_cons_zero, List.set_cons_succ]
            refine takeN (i := 28) (dst := (some 70)) rfl rfl (by kernel_rfl) (by kernel_rfl) (by kernel_rfl) (fun _ _ _ h => h) (by rfl) (by assumption) ?_
            try simp only [Act.put, List.setIfInBounds_toArray, List.set_cons_zero, List.set_cons_succ]
            refine takeN (i := 29) (dst := (some 71)) rfl rfl (by kernel_rfl) (by kernel_rfl) (by kernel_rfl) (fun _ _ _ h => h) (by rfl) (by assumption) ?_
            try simp only [Act.put, List.setIfInBounds_toArray, List.set_cons_zero, List.set_cons_succ]
            refine takeN (i := 30) (dst := (some 72)) rfl rfl (by kernel_rfl) (by kernel_rfl) (by kernel_rfl) (fun _ _ _ h => h) (by rfl) (by assumption) ?_
            try simp only [Act.put, List.setIfInBounds_toArray, List.set_cons_zero, List.set_cons_succ]
            refine takeN (i := 31) (dst := (some 73)) rfl rfl (by kernel_rfl) (by kernel_rfl) (by kernel_rfl) (fun _ _ _ h => h) (by rfl) (by assumption) ?_
            try simp only [Act.put, List.setIfInBounds_toArray, List.set_cons_zero, List.set_cons_succ]
            refine takeN (i := 32) (dst := (some 74)) rfl rfl (by kernel_rfl) (by kernel_rfl) (by kernel_rfl) (fun _ _ _ h => h) (by rfl) (by assumption) ?_
            try simp only [Act.put, List.setIfInBounds_toArray, List.set_cons_zero, List.set_cons_succ]
            refine takeN (i := 33) (dst := (some 75)) rfl rfl (by kernel_rfl) (by kernel_rfl) (by kernel_rfl) (fun _ _ _ h => h) (by rfl) (by assumption) ?_
            try simp only [Act.put, List.setIfInBounds_toArray, List.set_cons_zero, List.set_cons_succ]
            refine takeN (i := 34) (dst := (some 76)) rfl rfl (by kernel_rfl) (by kernel_rfl) (by kernel_rfl) (fun _ _ _ h => h) (by rfl) (by assumption) ?_
            try simp only [Act.put, List.setIfInBounds_toArray, List.set_cons_zero, List.set_cons_succ]
            refine takeN (i := 35) (dst := (some 77)) rfl rfl (by kernel_rfl) (by kernel_rfl) (by kernel_rfl) (fun _ _ _ h => h) (by rfl) (by assumption) ?_
            try simp only [Act.put, List.setIfInBounds_toArray, List.set_cons_zero, List.set_cons_succ]
            refine takeY (i := 36) (dst := (some 78)) (v := ?_) rfl rfl (by kernel_rfl) (by kernel_rfl) (by kernel_rfl) (fun _ _ _ h => h) (by rfl) ?hy1w36 (by assumption) ?rest1w36
            case hy1w36 => (intro w hSw; (try dsimp only at hSw); go_simp; (try with_reducible rfl))
            try simp only [Act.put, List.setIfInBounds_toArray, List.set_cons_zero, List.set_cons_succ]
            refine wpAnyH_done (by kernel_rfl) ?_ _
            have E := HE.out.next (held9B hHeld)
            clear HE HS0 hMA
            go_wp2_with fail
            go_roundw
            case rel => exact ⟨k + 1, by omega, by go_num, HB.out.trans (E.bel.mono hsz)⟩
            case measure => simp [intOf]; omega
        | true =>
          cases tB : tenB xsB ysB with
          | false =>
            as_aux_lemma =>
              have hMA : ∀ W, Below w1.heap.size w1 W → Hid (Calls Try.prog 8 #[.agg #[.slice aA xsA.length cA, .slice bA ysA.length dA]] W fun e w' => e = .returned (.bool true) ∧ Below W.heap.size W w') := by
                intro W hb
                have h := tenMay_any aA bA cA dA xsA ysA W ((E.next hb).tenN 0 rfl).sh ((E.next hb).tenN 0 rfl).da
                rw [tA] at h
                exact Lib.hid h
              have hMB : ∀ W, Below w1.heap.size w1 W → Hid (Calls Try.prog 8 #[.agg #[.slice aB xsB.length cB, .slice bB ysB.length dB]] W fun e w' => e = .returned (.bool false) ∧ Below W.heap.size W w') := by
                intro W hb
                have h := tenMay_any aB bB cB dB xsB ysB W ((E.next hb).tenN 1 rfl).sh ((E.next hb).tenN 1 rfl).da
                rw [tB] at h
                exact Lib.hid h
              have HS0 := Lib.hid (show Below w1.heap.size w1 w1 ∧ w1.cell? ⟨wo.heap.size, 0, none⟩ = some (.slice aA xsA.length cA) ∧ w1.cell? ⟨wo.heap.size, 1, none⟩ = some (.slice bA ysA.length dA) ∧ w1.cell? ⟨wo.heap.size, 2, none⟩ = some (.slice aB xsB.length cB) ∧ w1.cell? ⟨wo.heap.size, 3, none⟩ = some (.slice bB ysB.length dB) ∧ w1.cell? ⟨wo.heap.size, 0, none⟩ = some (.slice aA xsA.length cA) ∧ w1.cell? ⟨wo.heap.size, 1, none⟩ = some (.slice bA ysA.length dA) from ⟨Below.refl _ _, E.cellN 0 rfl, E.cellN 1 rfl, E.cellN 2 rfl, E.cellN 3 rfl, E.cellN 0 rfl, E.cellN 1 rfl⟩)
              have HE := Lib.hid E
              clear E
              refine wp_region_held_drew (S := (fun w' => Below w1.heap.size w1 w' ∧ w'.cell? ⟨wo.heap.size, 0, none⟩ = some (.slice aA xsA.length cA) ∧ w'.cell? ⟨wo.heap.size, 1, none⟩ = some (.slice bA ysA.length dA) ∧ w'.cell? ⟨wo.heap.size, 2, none⟩ = some (.slice aB xsB.length cB) ∧ w'.cell? ⟨wo.heap.size, 3, none⟩ = some (.slice bB ysB.length dB) ∧ w'.cell? ⟨wo.heap.size, 0, none⟩ = some (.slice aA xsA.length cA) ∧ w'.cell? ⟨wo.heap.size, 1, none⟩ = some (.slice bA ysA.length dA))) (by kernel_rfl) (held6 HS0.out (Below.drew (Below.refl _ _))) (fun hHeld => ?_)
              refine takeY (i := 0) (dst := (some 42)) (v := ?_) rfl rfl (by kernel_rfl) (by kernel_rfl) (by kernel_rfl) (fun _ _ _ h => h) (by rfl) ?hy2w0 (by assumption) ?rest2w0
              case hy2w0 => (intro w hSw; (try dsimp only at hSw); go_simp; (try with_reducible rfl))
              try simp only [Act.put, List.setIfInBounds_toArray, List.set_cons_zero, List.set_cons_succ]
              refine takeY (i := 1) (dst := (some 43)) (v := ?_) rfl rfl (by kernel_rfl) (by kernel_rfl) (by kernel_rfl) (fun _ _ _ h => h) (by rfl) ?hy2w1 (by assumption) ?rest2w1
              case hy2w1 => (intro w hSw; (try dsimp only at hSw); go_simp; (try with_reducible rfl))
              try simp only [Act.put, List.setIfInBounds_toArray, List.set_cons_zero, List.set_cons_succ]
              refine wpAnyH_ready (rs := [2]) (by kernel_rfl) (by simp) (AllReadyH.cons rfl (fun K hK => ?_) AllReadyH.nil)
              go_simp
              (go_at_call_of 8 bA; refine (hMA _ (held9B (by assumption))).out.mono ?_; rintro e w2 ⟨rfl, hb12⟩)
              (try go_wp2_with fail)
              refine hK.out _ _ (held6 (by assumption) (by assumption)) (fun hHeld => ?_)
              clear hK K
              try simp only [Act.put, List.setIfInBounds_toArray, List.set_cons_zero, List.set_cons_succ]
              refine takeY (i := 3) (dst := (some 45)) (v := ?_) rfl rfl (by kernel_rfl) (by kernel_rfl) (by kernel_rfl) (fun _ _ _ h => h) (by rfl) ?hy2w3 (by assumption) ?rest2w3
              case hy2w3 => (intro w hSw; (try dsimp only at hSw); go_simp; (try with_reducible rfl))
              try simp only [Act.put, List.setIfInBounds_toArray, List.set_cons_zero, List.set_cons_succ]
              refine takeY (i := 4) (dst := (some 46)) (v := ?_) rfl rfl (by kernel_rfl) (by kernel_rfl) (by kernel_rfl) (fun _ _ _ h => h) (by rfl) ?hy2w4 (by assumption) ?rest2w4
              case hy2w4 => (intro w hSw; (try dsimp only at hSw); go_simp; (try with_reducible rfl))
              try simp only [Act.put, List.setIfInBounds_toArray, List.set_cons_zero, List.set_cons_succ]
              refine takeY (i := 5) (dst := (some 47)) (v := ?_) rfl rfl (by kernel_rfl) (by kernel_rfl) (by kernel_rfl) (fun _ _ _ h => h) (by rfl) ?hy2w5 (by assumption) ?rest2w5
              case hy2w5 => (intro w hSw; (try dsimp only at hSw); go_simp; (try with_reducible rfl))
              try simp only [Act.put, List.setIfInBounds_toArray, List.set_cons_zero, List.set_cons_succ]
              refine takeY (i := 6) (dst := (some 48)) (v := ?_) rfl rfl (by kernel_rfl) (by kernel_rfl) (by kernel_rfl) (fun _ _ _ h => h) (by rfl) ?hy2w6 (by assumption) ?rest2w6
              case hy2w6 => (intro w hSw; (try dsimp only at hSw); go_simp; (try with_reducible rfl))
              try simp only [Act.put, List.setIfInBounds_toArray, List.set_cons_zero, List.set_cons_succ]
              refine wpAnyH_ready (rs := [7]) (by kernel_rfl) (by simp) (AllReadyH.cons rfl (fun K hK => ?_) AllReadyH.nil)
              go_simp
              (go_at_call_of 8 bB; refine (hMB _ (held9B (by assumption))).out.mono ?_; rintro e w3 ⟨rfl, hb12⟩)
              (try go_wp2_with fail)
              refine hK.out _ _ (held6 (by assumption) (by assumption)) (fun hHeld => ?_)
              clear hK K
              try simp only [Act.put, List.setIfInBounds_toArray, List.set_cons_zero, List.set_cons_succ]
              refine takeY (i := 8) (dst := (some 50)) (v := ?_) rfl rfl (by kernel_rfl) (by kernel_rfl) (by kernel_rfl) (fun _ _ _ h => h) (by rfl) ?hy2w8 (by assumption) ?rest2w8
              case hy2w8 => (intro w hSw; (try dsimp only at hSw); go_simp; (try with_reducible rfl))
              try simp only [Act.put, List.setIfInBounds_toArray, List.set_cons_zero, List.set_cons_succ]
              refine takeY (i := 9) (dst := (some 51)) (v := ?_) rfl rfl (by kernel_rfl) (by kernel_rfl) (by kernel_rfl) (fun _ _ _ h => h) (by rfl) ?hy2w9 (by assumption) ?rest2w9
              case hy2w9 => (intro w hSw; (try dsimp only at hSw); go_simp; (try with_reducible rfl))
              try simp only [Act.put, List.setIfInBounds_toArray, List.set_cons_zero, List.set_cons_succ]
              refine takeY (i := 10) (dst := (some 52)) (v := ?_) rfl rfl (by kernel_rfl) (by kernel_rfl) (by kernel_rfl) (fun _ _ _ h => h) (by rfl) ?hy2w10 (by assumption) ?rest2w10
              case hy2w10 => (intro w hSw; (try dsimp only at hSw); go_simp; (try with_reducible rfl))
              try simp only [Act.put, List.setIfInBounds_toArray, List.set_cons_zero, List.set_cons_succ]
              refine takeN (i := 11) (dst := (some 53)) rfl rfl (by kernel_rfl) (by kernel_rfl) (by kernel_rfl) (fun _ _ _ h => h) (by rfl) (by assumption) ?_
              try simp only [Act.put, List.setIfInBounds_toArray, List.set_cons_zero, List.set_cons_succ]
              refine takeN (i := 12) (dst := (some 54)) rfl rfl (by kernel_rfl) (by kernel_rfl) (by kernel_rfl) (fun _ _ _ h => h) (by rfl) (by assumption) ?_
              try simp only [Act.put, List.setIfInBounds_toArray, List.set_cons_zero, List.set_cons_succ]
              refine takeN (i := 13) (dst := (some 55)) rfl rfl (by kernel_rfl) (by kernel_rfl) (by kernel_rfl) (fun _ _ _ h => h) (by rfl) (by assumption) ?_
              try simp only [Act.put, List.setIfInBounds_toArray, List.set_cons_zero, List.set_cons_succ]
              refine takeN (i := 14) (dst := (some 56)) rfl rfl (by kernel_rfl) (by kernel_rfl) (by kernel_rfl) (fun _ _ _ h => h) (by rfl) (by assumption) ?_
              try simp only [Act.put, List.setIfInBounds_toArray, List.set_cons_zero, List.set_cons_succ]
              refine takeN (i := 15) (dst := (some 57)) rfl rfl (by kernel_rfl) (by kernel_rfl) (by kernel_rfl) (fun _ _ _ h => h) (by rfl) (by assumption) ?_
              try simp only [Act.put, List.setIfInBounds_toArray, List.set_cons_zero, List.set_cons_succ]
              refine takeY (i := 16) (dst := (some 58)) (v := ?_) rfl rfl (by kernel_rfl) (by kernel_rfl) (by kernel_rfl) (fun _ _ _ h => h) (by rfl) ?hy2w16 (by assumption) ?rest2w16
              case hy2w16 => (intro w hSw; (try dsimp only at hSw); go_simp; (try with_reducible rfl))
              try simp only [Act.put, List.setIfInBounds_toArray, List.set_cons_zero, List.set_cons_succ]
              refine takeY (i := 17) (dst := (some 59)) (v := ?_) rfl rfl (by kernel_rfl) (by kernel_rfl) (by kernel_rfl) (fun _ _ _ h => h) (by rfl) ?hy2w17 (by assumption) ?rest2w17
              case hy2w17 => (intro w hSw; (try dsimp only at hSw); go_simp; (try with_reducible rfl))
              try simp only [Act.put, List.setIfInBounds_toArray, List.set_cons_zero, List.set_cons_succ]
              refine takeN (i := 18) (dst := (some 60)) rfl rfl (by kernel_rfl) (by kernel_rfl) (by kernel_rfl) (fun _ _ _ h => h) (by rfl) (by assumption) ?_
              try simp only [Act.put, List.setIfInBounds_toArray, List.set_cons_zero, List.set_cons_succ]
              refine takeN (i := 19) (dst := (some 61)) rfl rfl (by kernel_rfl) (by kernel_rfl) (by kernel_rfl) (fun _ _ _ h => h) (by rfl) (by assumption) ?_
              try simp only [Act.put, List.setIfInBounds_toArray, List.set_cons_zero, List.set_cons_succ]
              refine takeN (i := 20) (dst := (some 62)) rfl rfl (by kernel_rfl) (by kernel_rfl) (by kernel_rfl) (fun _ _ _ h => h) (by rfl) (by assumption) ?_
              try simp only [Act.put, List.setIfInBounds_toArray, List.set_cons_zero, List.set_cons_succ]
              refine takeN (i := 21) (dst := (some 63)) rfl rfl (by kernel_rfl) (by kernel_rfl) (by kernel_rfl) (fun _ _ _ h => h) (by rfl) (by assumption) ?_
              try simp only [Act.put, List.setIfInBounds_toArray, List.set_cons_zero, List.set_cons_succ]
              refine takeN (i := 22) (dst := (some 64)) rfl rfl (by kernel_rfl) (by kernel_rfl) (by kernel_rfl) (fun _ _ _ h => h) (by rfl) (by assumption) ?_
              try simp only [Act.put, List.setIfInBounds_toArray, List.set_cons_zero, List.set_cons_succ]
              refine takeY (i := 23) (dst := (some 65)) (v := ?_) rfl rfl (by kernel_rfl) (by kernel_rfl) (by kernel_rfl) (fun _ _ _ h => h) (by rfl) ?hy2w23 (by assumption) ?rest2w23
              case hy2w23 => (intro w hSw; (try dsimp only at hSw); go_simp; (try with_reducible rfl))
              try simp only [Act.put, List.setIfInBounds_toArray, List.set_cons_zero, List.set_cons_succ]
              refine takeY (i := 24) (dst := (some 66)) (v := ?_) rfl rfl (by kernel_rfl) (by kernel_rfl) (by kernel_rfl) (fun _ _ _ h => h) (by rfl) ?hy2w24 (by assumption) ?rest2w24
              case hy2w24 => (intro w hSw; (try dsimp only at hSw); go_simp; (try with_reducible rfl))
              try simp only [Act.put, List.setIfInBounds_toArray, List.set_cons_zero, List.set_cons_succ]
              refine takeN (i := 25) (dst := (some 67)) rfl rfl (by kernel_rfl) (by kernel_rfl) (by kernel_rfl) (fun _ _ _ h => h) (by rfl) (by assumption) ?_
              try simp only [Act.put, List.setIfInBounds_toArray, List.set_cons_zero, List.set_cons_succ]
              refine takeN (i := 26) (dst := (some 68)) rfl rfl (by kernel_rfl) (by kernel_rfl) (by kernel_rfl) (fun _ _ _ h => h) (by rfl) (by assumption) ?_
              try simp only [Act.put, List.setIfInBounds_toArray, List.set_cons_zero, List.set_cons_succ]
              refine takeN (i := 27) (dst := (some 69)) rfl rfl (by kernel_rfl) (by kernel_rfl) (by kernel_rfl) (fun _ _ _ h => h) (by rfl) (by assumption) ?_
              try simp only [Act.put, List.setIfInBounds_toArray, List.set_cons_zero, List.set_cons_succ]
              refine takeN (i := 28) (dst := (some 70)) rfl rfl (by kernel_rfl) (by kernel_rfl) (by kernel_rfl) (fun _ _ _ h => h) (by rfl) (by assumption) ?_
              try simp only [Act.put, List.setIfInBounds_toArray, List.set_cons_zero, List.set_cons_succ]
              refine takeN (i := 29) (dst := (some 71)) rfl rfl (by kernel_rfl) (by kernel_rfl) (by kernel_rfl) (fun _ _ _ h => h) (by rfl) (by assumption) ?_
              try simp only [Act.put, List.setIfInBounds_toArray, List.set_cons_zero, List.set_cons_succ]
              refine takeN (i := 30) (dst := (some 72)) rfl rfl (by kernel_rfl) (by kernel_rfl) (by kernel_rfl) (fun _ _ _ h => h) (by rfl) (by assumption) ?_
              try simp only [Act.put, List.setIfInBounds_toArray, List.set_cons_zero, List.set_cons_succ]
              refine takeN (i := 31) (dst := (some 73)) rfl rfl (by kernel_rfl) (by kernel_rfl) (by kernel_rfl) (fun _ _ _ h => h) (by rfl) (by assumption) ?_
              try simp only [Act.put, List.setIfInBounds_toArray, List.set_cons_zero, List.set_cons_succ]
              refine takeN (i := 32) (dst := (some 74)) rfl rfl (by kernel_rfl) (by kernel_rfl) (by kernel_rfl) (fun _ _ _ h => h) (by rfl) (by assumption) ?_
              try simp only [Act.put, List.setIfInBounds_toArray, List.set_cons_zero, List.set_cons_succ]
              refine takeN (i := 33) (dst := (some 75)) rfl rfl (by kernel_rfl) (by kernel_rfl) (by kernel_rfl) (fun _ _ _ h => h) (by rfl) (by assumption) ?_
              try simp only [Act.put, List.setIfInBounds_toArray, List.set_cons_zero, List.set_cons_succ]
              refine takeN (i := 34) (dst := (some 76)) rfl rfl (by kernel_rfl) (by kernel_rfl) (by kernel_rfl) (fun _ _ _ h => h) (by rfl) (by assumption) ?_
              try simp only [Act.put, List.setIfInBounds_toArray, List.set_cons_zero, List.set_cons_succ]
              refine takeN (i := 35) (dst := (some 77)) rfl rfl (by kernel_rfl) (by kernel_rfl) (by kernel_rfl) (fun _ _ _ h => h) (by rfl) (by assumption) ?_
              try simp only [Act.put, List.setIfInBounds_toArray, List.set_cons_zero, List.set_cons_succ]
              refine takeY (i := 36) (dst := (some 78)) (v := ?_) rfl rfl (by kernel_rfl) (by kernel_rfl) (by kernel_rfl) (fun _ _ _ h => h) (by rfl) ?hy2w36 (by assumption) ?rest2w36
              case hy2w36 => (intro w hSw; (try dsimp only at hSw); go_simp; (try with_reducible rfl))
              try simp only [Act.put, List.setIfInBounds_toArray, List.set_cons_zero, List.set_cons_succ]
              refine wpAnyH_done (by kernel_rfl) ?_ _
              have E := HE.out.next (held9B hHeld)
              clear HE HS0 hMA
              go_wp2_with fail
              go_roundw
              case rel => exact ⟨k + 1, by omega, by go_num, HB.out.trans (E.bel.mono hsz)⟩
              case measure => simp [intOf]; omega
          | true =>
            by_cases h2 : ¬ xsA.length = 2
            · have hd2 : ((xsA.length : Int) != 2) = true := by simp; omega
              as_aux_lemma =>
                have hMA : ∀ W, Below w1.heap.size w1 W → Hid (Calls Try.prog 8 #[.agg #[.slice aA xsA.length cA, .slice bA ysA.length dA]] W fun e w' => e = .returned (.bool true) ∧ Below W.heap.size W w') := by
                  intro W hb
                  have h := tenMay_any aA bA cA dA xsA ysA W ((E.next hb).tenN 0 rfl).sh ((E.next hb).tenN 0 rfl).da
                  rw [tA] at h
                  exact Lib.hid h
                have hMB : ∀ W, Below w1.heap.size w1 W → Hid (Calls Try.prog 8 #[.agg #[.slice aB xsB.length cB, .slice bB ysB.length dB]] W fun e w' => e = .returned (.bool true) ∧ Below W.heap.size W w') := by
                  intro W hb
                  have h := tenMay_any aB bB cB dB xsB ysB W ((E.next hb).tenN 1 rfl).sh ((E.next hb).tenN 1 rfl).da
                  rw [tB] at h
                  exact Lib.hid h
                have HS0 := Lib.hid (show Below w1.heap.size w1 w1 ∧ w1.cell? ⟨wo.heap.size, 0, none⟩ = some (.slice aA xsA.length cA) ∧ w1.cell? ⟨wo.heap.size, 1, none⟩ = some (.slice bA ysA.length dA) ∧ w1.cell? ⟨wo.heap.size, 2, none⟩ = some (.slice aB xsB.length cB) ∧ w1.cell? ⟨wo.heap.size, 3, none⟩ = some (.slice bB ysB.length dB) ∧ w1.cell? ⟨wo.heap.size, 0, none⟩ = some (.slice aA xsA.length cA) ∧ w1.cell? ⟨wo.heap.size, 1, none⟩ = some (.slice bA ysA.length dA) from ⟨Below.refl _ _, E.cellN 0 rfl, E.cellN 1 rfl, E.cellN 2 rfl, E.cellN 3 rfl, E.cellN 0 rfl, E.cellN 1 rfl⟩)
                have HE := Lib.hid E
                clear E
                refine wp_region_held_drew (S := (fun w' => Below w1.heap.size w1 w' ∧ w'.cell? ⟨wo.heap.size, 0, none⟩ = some (.slice aA xsA.length cA) ∧ w'.cell? ⟨wo.heap.size, 1, none⟩ = some (.slice bA ysA.length dA) ∧ w'.cell? ⟨wo.heap.size, 2, none⟩ = some (.slice aB xsB.length cB) ∧ w'.cell? ⟨wo.heap.size, 3, none⟩ = some (.slice bB ysB.length dB) ∧ w'.cell? ⟨wo.heap.size, 0, none⟩ = some (.slice aA xsA.length cA) ∧ w'.cell? ⟨wo.heap.size, 1, none⟩ = some (.slice bA ysA.length dA))) (by kernel_rfl) (held6 HS0.out (Below.drew (Below.refl _ _))) (fun hHeld => ?_)
                refine takeY (i := 0) (dst := (some 42)) (v := ?_) rfl rfl (by kernel_rfl) (by kernel_rfl) (by kernel_rfl) (fun _ _ _ h => h) (by rfl) ?hy3w0 (by assumption) ?rest3w0
                case hy3w0 => (intro w hSw; (try dsimp only at hSw); go_simp; (try with_reducible rfl))
                try simp only [Act.put, List.setIfInBounds_toArray, List.set_cons_zero, List.set_cons_succ]
                refine takeY (i := 1) (dst := (some 43)) (v := ?_) rfl rfl (by kernel_rfl) (by kernel_rfl) (by kernel_rfl) (fun _ _ _ h => h) (by rfl) ?hy3w1 (by assumption) ?rest3w1
                case hy3w1 => (intro w hSw; (try dsimp only at hSw); go_simp; (try with_reducible rfl))
                try simp only [Act.put, List.setIfInBounds_toArray, List.set_cons_zero, List.set_cons_succ]
                refine wpAnyH_ready (rs := [2]) (by kernel_rfl) (by simp) (AllReadyH.cons rfl (fun K hK => ?_) AllReadyH.nil)
                go_simp
                (go_at_call_of 8 bA; refine (hMA _ (held9B (by assumption))).out.mono ?_; rintro e w2 ⟨rfl, hb12⟩)
                (try go_wp2_with fail)
                refine hK.out _ _ (held6 (by assumption) (by assumption)) (fun hHeld => ?_)
                clear hK K
                try simp only [Act.put, List.setIfInBounds_toArray, List.set_cons_zero, List.set_cons_succ]
                refine takeY (i := 3) (dst := (some 45)) (v := ?_) rfl rfl (by kernel_rfl) (by kernel_rfl) (by kernel_rfl) (fun _ _ _ h => h) (by rfl) ?hy3w3 (by assumption) ?rest3w3
                case hy3w3 => (intro w hSw; (try dsimp only at hSw); go_simp; (try with_reducible rfl))
                try simp only [Act.put, List.setIfInBounds_toArray, List.set_cons_zero, List.set_cons_succ]
                refine takeY (i := 4) (dst := (some 46)) (v := ?_) rfl rfl (by kernel_rfl) (by kernel_rfl) (by kernel_rfl) (fun _ _ _ h => h) (by rfl) ?hy3w4 (by assumption) ?rest3w4
                case hy3w4 => (intro w hSw; (try dsimp only at hSw); go_simp; (try with_reducible rfl))
                try simp only [Act.put, List.setIfInBounds_toArray, List.set_cons_zero, List.set_cons_succ]
                refine takeY (i := 5) (dst := (some 47)) (v := ?_) rfl rfl (by kernel_rfl) (by kernel_rfl) (by kernel_rfl) (fun _ _ _ h => h) (by rfl) ?hy3w5 (by assumption) ?rest3w5
                case hy3w5 => (intro w hSw; (try dsimp only at hSw); go_simp; (try with_reducible rfl))
                try simp only [Act.put, List.setIfInBounds_toArray, List.set_cons_zero, List.set_cons_succ]
                refine takeY (i := 6) (dst := (some 48)) (v := ?_) rfl rfl (by kernel_rfl) (by kernel_rfl) (by kernel_rfl) (fun _ _ _ h => h) (by rfl) ?hy3w6 (by assumption) ?rest3w6
                case hy3w6 => (intro w hSw; (try dsimp only at hSw); go_simp; (try with_reducible rfl))
                try simp only [Act.put, List.setIfInBounds_toArray, List.set_cons_zero, List.set_cons_succ]
                refine wpAnyH_ready (rs := [7]) (by kernel_rfl) (by simp) (AllReadyH.cons rfl (fun K hK => ?_) AllReadyH.nil)
                go_simp
                (go_at_call_of 8 bB; refine (hMB _ (held9B (by assumption))).out.mono ?_; rintro e w3 ⟨rfl, hb12⟩)
                (try go_wp2_with fail)
                refine hK.out _ _ (held6 (by assumption) (by assumption)) (fun hHeld => ?_)
                clear hK K
                try simp only [Act.put, List.setIfInBounds_toArray, List.set_cons_zero, List.set_cons_succ]
                refine takeY (i := 8) (dst := (some 50)) (v := ?_) rfl rfl (by kernel_rfl) (by kernel_rfl) (by kernel_rfl) (fun _ _ _ h => h) (by rfl) ?hy3w8 (by assumption) ?rest3w8
                case hy3w8 => (intro w hSw; (try dsimp only at hSw); go_simp; (try with_reducible rfl))
                try simp only [Act.put, List.setIfInBounds_toArray, List.set_cons_zero, List.set_cons_succ]
                refine takeY (i := 9) (dst := (some 51)) (v := ?_) rfl rfl (by kernel_rfl) (by kernel_rfl) (by kernel_rfl) (fun _ _ _ h => h) (by rfl) ?hy3w9 (by assumption) ?rest3w9
                case hy3w9 => (intro w hSw; (try dsimp only at hSw); go_simp; (try with_reducible rfl))
                try simp only [Act.put, List.setIfInBounds_toArray, List.set_cons_zero, List.set_cons_succ]
                refine takeY (i := 10) (dst := (some 52)) (v := ?_) rfl rfl (by kernel_rfl) (by kernel_rfl) (by kernel_rfl) (fun _ _ _ h => h) (by rfl) ?hy3w10 (by assumption) ?rest3w10
                case hy3w10 => (intro w hSw; (try dsimp only at hSw); go_simp; (try with_reducible rfl))
                try simp only [Act.put, List.setIfInBounds_toArray, List.set_cons_zero, List.set_cons_succ]
                refine takeY (i := 11) (dst := (some 53)) (v := ?_) rfl rfl (by kernel_rfl) (by kernel_rfl) (by kernel_rfl) (fun _ _ _ h => h) (by rfl) ?hy3w11 (by assumption) ?rest3w11
                case hy3w11 => (intro w hSw; (try dsimp only at hSw); go_simp; (try with_reducible rfl))
                try simp only [Act.put, List.setIfInBounds_toArray, List.set_cons_zero, List.set_cons_succ]
                refine takeY (i := 12) (dst := (some 54)) (v := ?_) rfl rfl (by kernel_rfl) (by kernel_rfl) (by kernel_rfl) (fun _ _ _ h => h) (by rfl) ?hy3w12 (by assumption) ?rest3w12
                case hy3w12 => (intro w hSw; (try dsimp only at hSw); go_simp; (try with_reducible rfl))
                try simp only [Act.put, List.setIfInBounds_toArray, List.set_cons_zero, List.set_cons_succ]
                refine takeY (i := 13) (dst := (some 55)) (v := ?_) rfl rfl (by kernel_rfl) (by kernel_rfl) (by kernel_rfl) (fun _ _ _ h => h) (by rfl) ?hy3w13 (by assumption) ?rest3w13
                case hy3w13 => (intro w hSw; (try dsimp only at hSw); go_simp; (try with_reducible rfl))
                try simp only [Act.put, List.setIfInBounds_toArray, List.set_cons_zero, List.set_cons_succ]
                refine takeY (i := 14) (dst := (some 56)) (v := ?_) rfl rfl (by kernel_rfl) (by kernel_rfl) (by kernel_rfl) (fun _ _ _ h => h) (by rfl) ?hy3w14 (by assumption) ?rest3w14
                case hy3w14 => (intro w hSw; (try dsimp only at hSw); go_simp; (try with_reducible rfl))
                try simp only [Act.put, List.setIfInBounds_toArray, List.set_cons_zero, List.set_cons_succ]
                refine takeY (i := 15) (dst := (some 57)) (v := ?_) rfl rfl (by kernel_rfl) (by kernel_rfl) (by kernel_rfl) (fun _ _ _ h => h) (by rfl) ?hy3w15 (by assumption) ?rest3w15
                case hy3w15 => (intro w hSw; (try dsimp only at hSw); go_simp; (try with_reducible rfl))
                try simp only [Act.put, List.setIfInBounds_toArray, List.set_cons_zero, List.set_cons_succ]
                refine takeY (i := 16) (dst := (some 58)) (v := ?_) rfl rfl (by kernel_rfl) (by kernel_rfl) (by kernel_rfl) (fun _ _ _ h => h) (by rfl) ?hy3w16 (by assumption) ?rest3w16
                case hy3w16 => (intro w hSw; (try dsimp only at hSw); go_simp; (try with_reducible rfl))
                try simp only [Act.put, List.setIfInBounds_toArray, List.set_cons_zero, List.set_cons_succ]
                refine takeY (i := 17) (dst := (some 59)) (v := ?_) rfl rfl (by kernel_rfl) (by kernel_rfl) (by kernel_rfl) (fun _ _ _ h => h) (by rfl) ?hy3w17 (by assumption) ?rest3w17
                case hy3w17 => (intro w hSw; (try dsimp only at hSw); go_simp; (try with_reducible rfl))
                try simp only [Act.put, List.setIfInBounds_toArray, List.set_cons_zero, List.set_cons_succ]
                refine takeN (i := 18) (dst := (some 60)) rfl rfl (by kernel_rfl) (by kernel_rfl) (by kernel_rfl) (fun _ _ _ h => h) (by rfl) (by assumption) ?_
                try simp only [Act.put, List.setIfInBounds_toArray, List.set_cons_zero, List.set_cons_succ]
                refine takeN (i := 19) (dst := (some 61)) rfl rfl (by kernel_rfl) (by kernel_rfl) (by kernel_rfl) (fun _ _ _ h => h) (by rfl) (by assumption) ?_
                try simp only [Act.put, List.setIfInBounds_toArray, List.set_cons_zero, List.set_cons_succ]
                refine takeN (i := 20) (dst := (some 62)) rfl rfl (by kernel_rfl) (by kernel_rfl) (by kernel_rfl) (fun _ _ _ h => h) (by rfl) (by assumption) ?_
                try simp only [Act.put, List.setIfInBounds_toArray, List.set_cons_zero, List.set_cons_succ]
                refine takeN (i := 21) (dst := (some 63)) rfl rfl (by kernel_rfl) (by kernel_rfl) (by kernel_rfl) (fun _ _ _ h => h) (by rfl) (by assumption) ?_
                try simp only [Act.put, List.setIfInBounds_toArray, List.set_cons_zero, List.set_cons_succ]
                refine takeN (i := 22) (dst := (some 64)) rfl rfl (by kernel_rfl) (by kernel_rfl) (by kernel_rfl) (fun _ _ _ h => h) (by rfl) (by assumption) ?_
                try simp only [Act.put, List.setIfInBounds_toArray, List.set_cons_zero, List.set_cons_succ]
                refine takeY (i := 23) (dst := (some 65)) (v := ?_) rfl rfl (by kernel_rfl) (by kernel_rfl) (by kernel_rfl) (fun _ _ _ h => h) (by rfl) ?hy3w23 (by assumption) ?rest3w23
                case hy3w23 => (intro w hSw; (try dsimp only at hSw); go_simp; (try with_reducible rfl))
                try simp only [Act.put, List.setIfInBounds_toArray, List.set_cons_zero, List.set_cons_succ]
                refine takeY (i := 24) (dst := (some 66)) (v := ?_) rfl rfl (by kernel_rfl) (by kernel_rfl) (by kernel_rfl) (fun _ _ _ h => h) (by rfl) ?hy3w24 (by assumption) ?rest3w24
                case hy3w24 => (intro w hSw; (try dsimp only at hSw); go_simp; (try with_reducible rfl))
                try simp only [Act.put, List.setIfInBounds_toArray, List.set_cons_zero, List.set_cons_succ]
                refine takeN (i := 25) (dst := (some 67)) rfl rfl (by kernel_rfl) (by kernel_rfl) (by kernel_rfl) (fun _ _ _ h => h) (by rfl) (by assumption) ?_
                try simp only [Act.put, List.setIfInBounds_toArray, List.set_cons_zero, List.set_cons_succ]
                refine takeN (i := 26) (dst := (some 68)) rfl rfl (by kernel_rfl) (by kernel_rfl) (by kernel_rfl) (fun _ _ _ h => h) (by rfl) (by assumption) ?_
                try simp only [Act.put, List.setIfInBounds_toArray, List.set_cons_zero, List.set_cons_succ]
                refine takeN (i := 27) (dst := (some 69)) rfl rfl (by kernel_rfl) (by kernel_rfl) (by kernel_rfl) (fun _ _ _ h => h) (by rfl) (by assumption) ?_
                try simp only [Act.put, List.setIfInBounds_toArray, List.set_cons_zero, List.set_cons_succ]
                refine takeN (i := 28) (dst := (some 70)) rfl rfl (by kernel_rfl) (by kernel_rfl) (by kernel_rfl) (fun _ _ _ h => h) (by rfl) (by assumption) ?_
                try simp only [Act.put, List.setIfInBounds_toArray, List.set_cons_zero, List.set_cons_succ]
                refine takeN (i := 29) (dst := (some 71)) rfl rfl (by kernel_rfl) (by kernel_rfl) (by kernel_rfl) (fun _ _ _ h => h) (by rfl) (by assumption) ?_
                try simp only [Act.put, List.setIfInBounds_toArray, List.set_cons_zero, List.set_cons_succ]
                refine takeN (i := 30) (dst := (some 72)) rfl rfl (by kernel_rfl) (by kernel_rfl) (by kernel_rfl) (fun _ _ _ h => h) (by rfl) (by assumption) ?_
                try simp only [Act.put, List.setIfInBounds_toArray, List.set_cons_zero, List.set_cons_succ]
                refine takeN (i := 31) (dst := (some 73)) rfl rfl (by kernel_rfl) (by kernel_rfl) (by kernel_rfl) (fun _ _ _ h => h) (by rfl) (by assumption) ?_
                try simp only [Act.put, List.setIfInBounds_toArray, List.set_cons_zero, List.set_cons_succ]
                refine takeN (i := 32) (dst := (some 74)) rfl rfl (by kernel_rfl) (by kernel_rfl) (by kernel_rfl) (fun _ _ _ h => h) (by rfl) (by assumption) ?_
                try simp only [Act.put, List.setIfInBounds_toArray, List.set_cons_zero, List.set_cons_succ]
                refine takeN (i := 33) (dst := (some 75)) rfl rfl (by kernel_rfl) (by kernel_rfl) (by kernel_rfl) (fun _ _ _ h => h) (by rfl) (by assumption) ?_
                try simp only [Act.put, List.setIfInBounds_toArray, List.set_cons_zero, List.set_cons_succ]
                refine takeN (i := 34) (dst := (some 76)) rfl rfl (by kernel_rfl) (by kernel_rfl) (by kernel_rfl) (fun _ _ _ h => h) (by rfl) (by assumption) ?_
                try simp only [Act.put, List.setIfInBounds_toArray, List.set_cons_zero, List.set_cons_succ]
                refine takeN (i := 35) (dst := (some 77)) rfl rfl (by kernel_rfl) (by kernel_rfl) (by kernel_rfl) (fun _ _ _ h => h) (by rfl) (by assumption) ?_
                try simp only [Act.put, List.setIfInBounds_toArray, List.set_cons_zero, List.set_cons_succ]
                refine takeY (i := 36) (dst := (some 78)) (v := ?_) rfl rfl (by kernel_rfl) (by kernel_rfl) (by kernel_rfl) (fun _ _ _ h => h) (by rfl) ?hy3w36 (by assumption) ?rest3w36
                case hy3w36 => (intro w hSw; (try dsimp only at hSw); go_simp; (try with_reducible rfl))
                try simp only [Act.put, List.setIfInBounds_toArray, List.set_cons_zero, List.set_cons_succ]
                refine wpAnyH_done (by kernel_rfl) ?_ _
                have E := HE.out.next (held9B hHeld)
                clear HE HS0 hMA
                go_wp2_with fail
                go_roundw
                case rel => exact ⟨k + 1, by omega, by go_num, HB.out.trans (E.bel.mono hsz)⟩
                case measure => simp [intOf]; omega
            · have hd2 : ((xsA.length : Int) != 2) = false := by simp; omega
              by_cases h3 : ¬ xsB.length = 2
              · have hd3 : ((xsB.length : Int) != 2) = true := by simp; omega
                have hQ2 := Lib.hid h2
                clear h2
                as_aux_lemma =>
                  have hMA : ∀ W, Below w1.heap.size w1 W → Hid (Calls Try.prog 8 #[.agg #[.slice aA xsA.length cA, .slice bA ysA.length dA]] W fun e w' => e = .returned (.bool true) ∧ Below W.heap.size W w') := by
                    intro W hb
                    have h := tenMay_any aA bA cA dA xsA ysA W ((E.next hb).tenN 0 rfl).sh ((E.next hb).tenN 0 rfl).da
                    rw [tA] at h
                    exact Lib.hid h
                  have hMB : ∀ W, Below w1.heap.size w1 W → Hid (Calls Try.prog 8 #[.agg #[.slice aB xsB.length cB, .slice bB ysB.length dB]] W fun e w' => e = .returned (.bool true) ∧ Below W.heap.size W w') := by
                    intro W hb
                    have h := tenMay_any aB bB cB dB xsB ysB W ((E.next hb).tenN 1 rfl).sh ((E.next hb).tenN 1 rfl).da
                    rw [tB] at h
                    exact Lib.hid h
                  have HS0 := Lib.hid (show Below w1.heap.size w1 w1 ∧ w1.cell? ⟨wo.heap.size, 0, none⟩ = some (.slice aA xsA.length cA) ∧ w1.cell? ⟨wo.heap.size, 1, none⟩ = some (.slice bA ysA.length dA) ∧ w1.cell? ⟨wo.heap.size, 2, none⟩ = some (.slice aB xsB.length cB) ∧ w1.cell? ⟨wo.heap.size, 3, none⟩ = some (.slice bB ysB.length dB) ∧ w1.cell? ⟨wo.heap.size, 0, none⟩ = some (.slice aA xsA.length cA) ∧ w1.cell? ⟨wo.heap.size, 1, none⟩ = some (.slice bA ysA.length dA) from ⟨Below.refl _ _, E.cellN 0 rfl, E.cellN 1 rfl, E.cellN 2 rfl, E.cellN 3 rfl, E.cellN 0 rfl, E.cellN 1 rfl⟩)
                  have HE := Lib.hid E
                  clear E
                  refine wp_region_held_drew (S := (fun w' => Below w1.heap.size w1 w' ∧ w'.cell? ⟨wo.heap.size, 0, none⟩ = some (.slice aA xsA.length cA) ∧ w'.cell? ⟨wo.heap.size, 1, none⟩ = some (.slice bA ysA.length dA) ∧ w'.cell? ⟨wo.heap.size, 2, none⟩ = some (.slice aB xsB.length cB) ∧ w'.cell? ⟨wo.heap.size, 3, none⟩ = some (.slice bB ysB.length dB) ∧ w'.cell? ⟨wo.heap.size, 0, none⟩ = some (.slice aA xsA.length cA) ∧ w'.cell? ⟨wo.heap.size, 1, none⟩ = some (.slice bA ysA.length dA))) (by kernel_rfl) (held6 HS0.out (Below.drew (Below.refl _ _))) (fun hHeld => ?_)
                  refine takeY (i := 0) (dst := (some 42)) (v := ?_) rfl rfl (by kernel_rfl) (by kernel_rfl) (by kernel_rfl) (fun _ _ _ h => h) (by rfl) ?hy4w0 (by assumption) ?rest4w0
                  case hy4w0 => (intro w hSw; (try dsimp only at hSw); go_simp; (try with_reducible rfl))
                  try simp only [Act.put, List.setIfInBounds_toArray, List.set_cons_zero, List.set_cons_succ]
                  refine takeY (i := 1) (dst := (some 43)) (v := ?_) rfl rfl (by kernel_rfl) (by kernel_rfl) (by kernel_rfl) (fun _ _ _ h => h) (by rfl) ?hy4w1 (by assumption) ?rest4w1
                  case hy4w1 => (intro w hSw; (try dsimp only at hSw); go_simp; (try with_reducible rfl))
                  try simp only [Act.put, List.setIfInBounds_toArray, List.set_cons_zero, List.set_cons_succ]
                  refine wpAnyH_ready (rs := [2]) (by kernel_rfl) (by simp) (AllReadyH.cons rfl (fun K hK => ?_) AllReadyH.nil)
                  go_simp
                  (go_at_call_of 8 bA; refine (hMA _ (held9B (by assumption))).out.mono ?_; rintro e w2 ⟨rfl, hb12⟩)
                  (try go_wp2_with fail)
                  refine hK.out _ _ (held6 (by assumption) (by assumption)) (fun hHeld => ?_)
                  clear hK K
                  try simp only [Act.put, List.setIfInBounds_toArray, List.set_cons_zero, List.set_cons_succ]
                  refine takeY (i := 3) (dst := (some 45)) (v := ?_) rfl rfl (by kernel_rfl) (by kernel_rfl) (by kernel_rfl) (fun _ _ _ h => h) (by rfl) ?hy4w3 (by assumption) ?rest4w3
                  case hy4w3 => (intro w hSw; (try dsimp only at hSw); go_simp; (try with_reducible rfl))
                  try simp only [Act.put, List.setIfInBounds_toArray, List.set_cons_zero, List.set_cons_succ]
                  refine takeY (i := 4) (dst := (some 46)) (v := ?_) rfl rfl (by kernel_rfl) (by kernel_rfl) (by kernel_rfl) (fun _ _ _ h => h) (by rfl) ?hy4w4 (by assumption) ?rest4w4
                  case hy4w4 => (intro w hSw; (try dsimp only at hSw); go_simp; (try with_reducible rfl))
                  try simp only [Act.put, List.setIfInBounds_toArray, List.set_cons_zero, List.set_cons_succ]
                  refine takeY (i := 5) (dst := (some 47)) (v := ?_) rfl rfl (by kernel_rfl) (by kernel_rfl) (by kernel_rfl) (fun _ _ _ h => h) (by rfl) ?hy4w5 (by assumption) ?rest4w5
                  case hy4w5 => (intro w hSw; (try dsimp only at hSw); go_simp; (try with_reducible rfl))
                  try simp only [Act.put, List.setIfInBounds_toArray, List.set_cons_zero, List.set_cons_succ]
                  refine takeY (i := 6) (dst := (some 48)) (v := ?_) rfl rfl (by kernel_rfl) (by kernel_rfl) (by kernel_rfl) (fun _ _ _ h => h) (by rfl) ?hy4w6 (by assumption) ?rest4w6
                  case hy4w6 => (intro w hSw; (try dsimp only at hSw); go_simp; (try with_reducible rfl))
                  try simp only [Act.put, List.setIfInBounds_toArray, List.set_cons_zero, List.set_cons_succ]
                  refine wpAnyH_ready (rs := [7]) (by kernel_rfl) (by simp) (AllReadyH.cons rfl (fun K hK => ?_) AllReadyH.nil)
                  go_simp
                  (go_at_call_of 8 bB; refine (hMB _ (held9B (by assumption))).out.mono ?_; rintro e w3 ⟨rfl, hb12⟩)
                  (try go_wp2_with fail)
                  refine hK.out _ _ (held6 (by assumption) (by assumption)) (fun hHeld => ?_)
                  clear hK K
                  try simp only [Act.put, List.setIfInBounds_toArray, List.set_cons_zero, List.set_cons_succ]
                  refine takeY (i := 8) (dst := (some 50)) (v := ?_) rfl rfl (by kernel_rfl) (by kernel_rfl) (by kernel_rfl) (fun _ _ _ h => h) (by rfl) ?hy4w8 (by assumption) ?rest4w8
                  case hy4w8 => (intro w hSw; (try dsimp only at hSw); go_simp; (try with_reducible rfl))
                  try simp only [Act.put, List.setIfInBounds_toArray, List.set_cons_zero, List.set_cons_succ]
                  refine takeY (i := 9) (dst := (some 51)) (v := ?_) rfl rfl (by kernel_rfl) (by kernel_rfl) (by kernel_rfl) (fun _ _ _ h => h) (by rfl) ?hy4w9 (by assumption) ?rest4w9
                  case hy4w9 => (intro w hSw; (try dsimp only at hSw); go_simp; (try with_reducible rfl))
                  try simp only [Act.put, List.setIfInBounds_toArray, List.set_cons_zero, List.set_cons_succ]
                  refine takeY (i := 10) (dst := (some 52)) (v := ?_) rfl rfl (by kernel_rfl) (by kernel_rfl) (by kernel_rfl) (fun _ _ _ h => h) (by rfl) ?hy4w10 (by assumption) ?rest4w10
                  case hy4w10 => (intro w hSw; (try dsimp only at hSw); go_simp; (try with_reducible rfl))
                  try simp only [Act.put, List.setIfInBounds_toArray, List.set_cons_zero, List.set_cons_succ]
                  refine takeY (i := 11) (dst := (some 53)) (v := ?_) rfl rfl (by kernel_rfl) (by kernel_rfl) (by kernel_rfl) (fun _ _ _ h => h) (by rfl) ?hy4w11 (by assumption) ?rest4w11
                  case hy4w11 => (intro w hSw; (try dsimp only at hSw); go_simp; (try with_reducible rfl))
                  try simp only [Act.put, List.setIfInBounds_toArray, List.set_cons_zero, List.set_cons_succ]
                  refine takeY (i := 12) (dst := (some 54)) (v := ?_) rfl rfl (by kernel_rfl) (by kernel_rfl) (by kernel_rfl) (fun _ _ _ h => h) (by rfl) ?hy4w12 (by assumption) ?rest4w12
                  case hy4w12 => (intro w hSw; (try dsimp only at hSw); go_simp; (try with_reducible rfl))
                  try simp only [Act.put, List.setIfInBounds_toArray, List.set_cons_zero, List.set_cons_succ]
                  refine takeY (i := 13) (dst := (some 55)) (v := ?_) rfl rfl (by kernel_rfl) (by kernel_rfl) (by kernel_rfl) (fun _ _ _ h => h) (by rfl) ?hy4w13 (by assumption) ?rest4w13
                  case hy4w13 => (intro w hSw; (try dsimp only at hSw); go_simp; (try with_reducible rfl))
                  try simp only [Act.put, List.setIfInBounds_toArray, List.set_cons_zero, List.set_cons_succ]
                  refine takeY (i := 14) (dst := (some 56)) (v := ?_) rfl rfl (by kernel_rfl) (by kernel_rfl) (by kernel_rfl) (fun _ _ _ h => h) (by rfl) ?hy4w14 (by assumption) ?rest4w14
                  case hy4w14 => (intro w hSw; (try dsimp only at hSw); go_simp; (try with_reducible rfl))
                  try simp only [Act.put, List.setIfInBounds_toArray, List.set_cons_zero, List.set_cons_succ]
                  refine takeY (i := 15) (dst := (some 57)) (v := ?_) rfl rfl (by kernel_rfl) (by kernel_rfl) (by kernel_rfl) (fun _ _ _ h => h) (by rfl) ?hy4w15 (by assumption) ?rest4w15
                  case hy4w15 => (intro w hSw; (try dsimp only at hSw); go_simp; (try with_reducible rfl))
                  try simp only [Act.put, List.setIfInBounds_toArray, List.set_cons_zero, List.set_cons_succ]
                  refine takeY (i := 16) (dst := (some 58)) (v := ?_) rfl rfl (by kernel_rfl) (by kernel_rfl) (by kernel_rfl) (fun _ _ _ h => h) (by rfl) ?hy4w16 (by assumption) ?rest4w16
                  case hy4w16 => (intro w hSw; (try dsimp only at hSw); go_simp; (try with_reducible rfl))
                  try simp only [Act.put, List.setIfInBounds_toArray, List.set_cons_zero, List.set_cons_succ]
                  refine takeY (i := 17) (dst := (some 59)) (v := ?_) rfl rfl (by kernel_rfl) (by kernel_rfl) (by kernel_rfl) (fun _ _ _ h => h) (by rfl) ?hy4w17 (by assumption) ?rest4w17
                  case hy4w17 => (intro w hSw; (try dsimp only at hSw); go_simp; (try with_reducible rfl))
                  try simp only [Act.put, List.setIfInBounds_toArray, List.set_cons_zero, List.set_cons_succ]
                  refine takeY (i := 18) (dst := (some 60)) (v := ?_) rfl rfl (by kernel_rfl) (by kernel_rfl) (by kernel_rfl) (fun _ _ _ h => h) (by rfl) ?hy4w18 (by assumption) ?rest4w18
                  case hy4w18 => (intro w hSw; (try dsimp only at hSw); go_simp; (try with_reducible rfl))
                  try simp only [Act.put, List.setIfInBounds_toArray, List.set_cons_zero, List.set_cons_succ]
                  refine takeY (i := 19) (dst := (some 61)) (v := ?_) rfl rfl (by kernel_rfl) (by kernel_rfl) (by kernel_rfl) (fun _ _ _ h => h) (by rfl) ?hy4w19 (by assumption) ?rest4w19
                  case hy4w19 => (intro w hSw; (try dsimp only at hSw); go_simp; (try with_reducible rfl))
                  try simp only [Act.put, List.setIfInBounds_toArray, List.set_cons_zero, List.set_cons_succ]
                  refine takeY (i := 20) (dst := (some 62)) (v := ?_) rfl rfl (by kernel_rfl) (by kernel_rfl) (by kernel_rfl) (fun _ _ _ h => h) (by rfl) ?hy4w20 (by assumption) ?rest4w20
                  case hy4w20 => (intro w hSw; (try dsimp only at hSw); go_simp; (try with_reducible rfl))
                  try simp only [Act.put, List.setIfInBounds_toArray, List.set_cons_zero, List.set_cons_succ]
                  refine takeY (i := 21) (dst := (some 63)) (v := ?_) rfl rfl (by kernel_rfl) (by kernel_rfl) (by kernel_rfl) (fun _ _ _ h => h) (by rfl) ?hy4w21 (by assumption) ?rest4w21
                  case hy4w21 => (intro w hSw; (try dsimp only at hSw); go_simp; (try with_reducible rfl))
                  try simp only [Act.put, List.setIfInBounds_toArray, List.set_cons_zero, List.set_cons_succ]
                  refine takeY (i := 22) (dst := (some 64)) (v := ?_) rfl rfl (by kernel_rfl) (by kernel_rfl) (by kernel_rfl) (fun _ _ _ h => h) (by rfl) ?hy4w22 (by assumption) ?rest4w22
                  case hy4w22 => (intro w hSw; (try dsimp only at hSw); go_simp; (try with_reducible rfl))
                  try simp only [Act.put, List.setIfInBounds_toArray, List.set_cons_zero, List.set_cons_succ]
                  refine takeY (i := 23) (dst := (some 65)) (v := ?_) rfl rfl (by kernel_rfl) (by kernel_rfl) (by kernel_rfl) (fun _ _ _ h => h) (by rfl) ?hy4w23 (by assumption) ?rest4w23
                  case hy4w23 => (intro w hSw; (try dsimp only at hSw); go_simp; (try with_reducible rfl))
                  try simp only [Act.put, List.setIfInBounds_toArray, List.set_cons_zero, List.set_cons_succ]
                  refine takeY (i := 24) (dst := (some 66)) (v := ?_) rfl rfl (by kernel_rfl) (by kernel_rfl) (by kernel_rfl) (fun _ _ _ h => h) (by rfl) ?hy4w24 (by assumption) ?rest4w24
                  case hy4w24 => (intro w hSw; (try dsimp only at hSw); go_simp; (try with_reducible rfl))
                  try simp only [Act.put, List.setIfInBounds_toArray, List.set_cons_zero, List.set_cons_succ]
                  refine takeN (i := 25) (dst := (some 67)) rfl rfl (by kernel_rfl) (by kernel_rfl) (by kernel_rfl) (fun _ _ _ h => h) (by rfl) (by assumption) ?_
                  try simp only [Act.put, List.setIfInBounds_toArray, List.set_cons_zero, List.set_cons_succ]
                  refine takeN (i := 26) (dst := (some 68)) rfl rfl (by kernel_rfl) (by kernel_rfl) (by kernel_rfl) (fun _ _ _ h => h) (by rfl) (by assumption) ?_
                  try simp only [Act.put, List.setIfInBounds_toArray, List.set_cons_zero, List.set_cons_succ]
                  refine takeN (i := 27) (dst := (some 69)) rfl rfl (by kernel_rfl) (by kernel_rfl) (by kernel_rfl) (fun _ _ _ h => h) (by rfl) (by assumption) ?_
                  try simp only [Act.put, List.setIfInBounds_toArray, List.set_cons_zero, List.set_cons_succ]
                  refine takeN (i := 28) (dst := (some 70)) rfl rfl (by kernel_rfl) (by kernel_rfl) (by kernel_rfl) (fun _ _ _ h => h) (by rfl) (by assumption) ?_
                  try simp only [Act.put, List.setIfInBounds_toArray, List.set_cons_zero, List.set_cons_succ]
                  refine takeN (i := 29) (dst := (some 71)) rfl rfl (by kernel_rfl) (by kernel_rfl) (by kernel_rfl) (fun _ _ _ h => h) (by rfl) (by assumption) ?_
                  try simp only [Act.put, List.setIfInBounds_toArray, List.set_cons_zero, List.set_cons_succ]
                  refine takeN (i := 30) (dst := (some 72)) rfl rfl (by kernel_rfl) (by kernel_rfl) (by kernel_rfl) (fun _ _ _ h => h) (by rfl) (by assumption) ?_
                  try simp only [Act.put, List.setIfInBounds_toArray, List.set_cons_zero, List.set_cons_succ]
                  refine takeN (i := 31) (dst := (some 73)) rfl rfl (by kernel_rfl) (by kernel_rfl) (by kernel_rfl) (fun _ _ _ h => h) (by rfl) (by assumption) ?_
                  try simp only [Act.put, List.setIfInBounds_toArray, List.set_cons_zero, List.set_cons_succ]
                  refine takeN (i := 32) (dst := (some 74)) rfl rfl (by kernel_rfl) (by kernel_rfl) (by kernel_rfl) (fun _ _ _ h => h) (by rfl) (by assumption) ?_
                  try simp only [Act.put, List.setIfInBounds_toArray, List.set_cons_zero, List.set_cons_succ]
                  refine takeN (i := 33) (dst := (some 75)) rfl rfl (by kernel_rfl) (by kernel_rfl) (by kernel_rfl) (fun _ _ _ h => h) (by rfl) (by assumption) ?_
                  try simp only [Act.put, List.setIfInBounds_toArray, List.set_cons_zero, List.set_cons_succ]
                  refine takeN (i := 34) (dst := (some 76)) rfl rfl (by kernel_rfl) (by kernel_rfl) (by kernel_rfl) (fun _ _ _ h => h) (by rfl) (by assumption) ?_
                  try simp only [Act.put, List.setIfInBounds_toArray, List.set_cons_zero, List.set_cons_succ]
                  refine takeN (i := 35) (dst := (some 77)) rfl rfl (by kernel_rfl) (by kernel_rfl) (by kernel_rfl) (fun _ _ _ h => h) (by rfl) (by assumption) ?_
                  try simp only [Act.put, List.setIfInBounds_toArray, List.set_cons_zero, List.set_cons_succ]
                  refine takeY (i := 36) (dst := (some 78)) (v := ?_) rfl rfl (by kernel_rfl) (by kernel_rfl) (by kernel_rfl) (fun _ _ _ h => h) (by rfl) ?hy4w36 (by assumption) ?rest4w36
                  case hy4w36 => (intro w hSw; (try dsimp only at hSw); go_simp; (try with_reducible rfl))
                  try simp only [Act.put, List.setIfInBounds_toArray, List.set_cons_zero, List.set_cons_succ]
                  refine wpAnyH_done (by kernel_rfl) ?_ _
                  have E := HE.out.next (held9B hHeld)
                  clear HE HS0 hMA
                  go_wp2_with fail
                  go_roundw
                  case rel => exact ⟨k + 1, by omega, by go_num, HB.out.trans (E.bel.mono hsz)⟩
                  case measure => simp [intOf]; omega
              · have hd3 : ((xsB.length : Int) != 2) = false := by simp; omega
                replace h2 : xsA.length = 2 := by omega
                replace h3 : xsB.length = 2 := by omega
                obtain ⟨R, m, hxA⟩ := list2 h2 (tenB_iff.1 tA).1
                obtain ⟨J, C, hxB⟩ := list2 h3 (tenB_iff.1 tB).1
                have hl1 : 1 < xsA.length := by omega
                have hl2 : (1 : Int) < (xsA.length : Int) := by omega
                have hl3 : 0 < xsB.length := by omega
                have hl4 : (0 : Int) < (xsB.length : Int) := by omega
                obtain ⟨bx, ox, ex, _, cx⟩ := (E.tenN 0 rfl).sh.cell 1 hl1
                have hx1 : xsA[1]?.getD 0 = (m : Int) := by rw [hxA]; rfl
                rw [hx1] at cx
                clear hx1
                obtain ⟨bz, oz, ez, _, cz⟩ := (E.tenN 1 rfl).sh.cell 0 hl3
                have hx0 : xsB[0]?.getD 0 = (J : Int) := by rw [hxB]; rfl
                rw [hx0, Nat.add_zero] at cz
                clear hx0
                subst ex
                subst ez
                have HX2 := Lib.hid h2
                have HX3 := Lib.hid h3
                have HXA := Lib.hid hxA
                have HXB := Lib.hid hxB
                clear h2 h3 hxA hxB
                have hMA : ∀ W, Below w1.heap.size w1 W → Hid (Calls Try.prog 8 #[.agg #[.slice (some ⟨bx, ox, none⟩) xsA.length cA, .slice bA ysA.length dA]] W fun e w' => e = .returned (.bool true) ∧ Below W.heap.size W w') := by
                  intro W hb
                  have h := tenMay_any (some ⟨bx, ox, none⟩) bA cA dA xsA ysA W ((E.next hb).tenN 0 rfl).sh ((E.next hb).tenN 0 rfl).da
                  rw [tA] at h
                  exact Lib.hid h
                have hMB : ∀ W, Below w1.heap.size w1 W → Hid (Calls Try.prog 8 #[.agg #[.slice (some ⟨bz, oz, none⟩) xsB.length cB, .slice bB ysB.length dB]] W fun e w' => e = .returned (.bool true) ∧ Below W.heap.size W w') := by
                  intro W hb
                  have h := tenMay_any (some ⟨bz, oz, none⟩) bB cB dB xsB ysB W ((E.next hb).tenN 1 rfl).sh ((E.next hb).tenN 1 rfl).da
                  rw [tB] at h
                  exact Lib.hid h
                have HS0 : Hid (Below w1.heap.size w1 w1 ∧ w1.cell? ⟨wo.heap.size, 0, none⟩ = some (.slice (some ⟨bx, ox, none⟩) xsA.length cA) ∧ w1.cell? ⟨wo.heap.size, 1, none⟩ = some (.slice bA ysA.length dA) ∧ w1.cell? ⟨wo.heap.size, 2, none⟩ = some (.slice (some ⟨bz, oz, none⟩) xsB.length cB) ∧ w1.cell? ⟨wo.heap.size, 3, none⟩ = some (.slice bB ysB.length dB) ∧ w1.cell? ⟨bx, ox + 1, none⟩ = some (.int .i64 m) ∧ w1.cell? ⟨bz, oz, none⟩ = some (.int .i64 J)) := Lib.hid ⟨Below.refl _ _, E.cellN 0 rfl, E.cellN 1 rfl, E.cellN 2 rfl, E.cellN 3 rfl, cx, cz⟩
                have HE := Lib.hid E
                have TA := Lib.hid tA
                have TB := Lib.hid tB
                clear E tA tB cx cz
                go_cut [78] from 42 to 78 (fun s78 wx => s78 = .bool ((m : Int) != (J : Int)) ∧ Below w1.heap.size w1 wx)
                case first =>
                  as_aux_lemma =>
                    go_region_held3 (fun w' => Below w1.heap.size w1 w' ∧ w'.cell? ⟨wo.heap.size, 0, none⟩ = some (.slice (some ⟨bx, ox, none⟩) xsA.length cA) ∧ w'.cell? ⟨wo.heap.size, 1, none⟩ = some (.slice bA ysA.length dA) ∧ w'.cell? ⟨wo.heap.size, 2, none⟩ = some (.slice (some ⟨bz, oz, none⟩) xsB.length cB) ∧ w'.cell? ⟨wo.heap.size, 3, none⟩ = some (.slice bB ysB.length dB) ∧ w'.cell? ⟨bx, ox + 1, none⟩ = some (.int .i64 m) ∧ w'.cell? ⟨bz, oz, none⟩ = some (.int .i64 J)) (first | assumption | exact held6 HS0.out (Below.drew (Below.refl _ _)) | exact held6 (by assumption) (by assumption)) (first | (go_at_call_of 8 bA; refine (hMA _ (held9B (by assumption))).out.mono ?_; rintro e w12 ⟨rfl, hb12⟩) | (go_at_call_of 8 bB; refine (hMB _ (held9B (by assumption))).out.mono ?_; rintro e w12 ⟨rfl, hb12⟩))
                    all_goals
                      go_wp2_with fail
                      go_meet
                      exact ⟨rfl, held9B (by assumption)⟩
                case rest =>
                  obtain ⟨rfl, hb12⟩ := hcut
                  have E := HE.out.next hb12
                  clear HE HS0 hMA hMB hb12
                  by_cases hmJ : ¬ m = J
                  · have hd4 : ((m : Int) != (J : Int)) = true := by simp; omega
                    rw [hd4]
                    go_wp2
                    go_roundw
                    case rel => exact ⟨k + 1, by omega, by go_num, HB.out.trans (E.bel.mono hsz)⟩
                    case measure => simp [intOf]; omega
                  · have hd4 : ((m : Int) != (J : Int)) = false := by simp; omega
                    rw [hd4]
                    obtain rfl : m = J := by omega
                    clear hmJ hd2 hd3 hd4
                    obtain ⟨X1, Y1, UA, UB, UC, XP, UP, XL, UL, XR, UR, WF, WD⟩ := whole_facts HXA.out HXB.out TA.out TB.out hA40 hB40
                    obtain ⟨UX, UY, mS, mD, iS, iD, iX, iY, lX, lY, hsum⟩ := WD k
                    have kA := fun a b c d W h => Lib.hid (WF.wA a b c d W h)
                    have kB := fun a b c d W h => Lib.hid (WF.wB a b c d W h)
                    have kT := fun a b c d W h => Lib.hid (WF.tB a b c d W h)
                    have kC := fun a b c d W h => Lib.hid (WF.wT a b c d W h)
                    have kP := fun a b c d a2 b2 c2 d2 W h1 h2 => Lib.hid (WF.mP a b c d a2 b2 c2 d2 W h1 h2)
                    have kL := fun a b c d a2 b2 c2 d2 W h1 h2 => Lib.hid (WF.mL a b c d a2 b2 c2 d2 W h1 h2)
                    have kQ := fun a b c d a2 b2 c2 d2 W h1 h2 => Lib.hid (WF.mB a b c d a2 b2 c2 d2 W h1 h2)
                    have kR := fun a b c d a2 b2 c2 d2 W h1 h2 => Lib.hid (WF.mR a b c d a2 b2 c2 d2 W h1 h2)
                    have kS := fun a b c d a2 b2 c2 d2 W h1 h2 => Lib.hid (mS a b c d a2 b2 c2 d2 W h1 h2)
                    have kD := fun a b c d a2 b2 c2 d2 W h1 h2 => Lib.hid (mD a b c d a2 b2 c2 d2 W h1 h2)
                    have lB := WF.lB
                    have HLB := Lib.hid lB
                    have hUB40 : UB.length ≤ 40 := by omega
                    have HBB := Lib.hid WF.bB
                    have IY1 := Lib.hid WF.iY1
                    have IA := Lib.hid WF.iA
                    have IB := Lib.hid WF.iB
                    have IC := Lib.hid WF.iC
                    have IP := Lib.hid WF.iP
                    have IL := Lib.hid WF.iL
                    have IR := Lib.hid WF.iR
                    have IS := Lib.hid iS
                    have ID := Lib.hid iD
                    have IX := Lib.hid iX
                    have IY := Lib.hid iY
                    have LX := Lib.hid lX
                    have LY := Lib.hid lY
                    have HSUM := Lib.hid hsum
                    have hUB1 : 1 ≤ UB.length := by have h := (tenB_iff.1 TB.out).2.1; have h2 := goodB_prod (tenB_iff.1 TB.out).1; omega
                    have hX8 : xsB.length ≤ 8 := hB8
                    have hEq := fun a b a2 b2 c d c2 d2 W h1 h2 h3 h4 => Lib.hid (eqTensor_any a b a2 b2 c d c2 d2 XL UL XL UL W h1 h2 h3 h4)
                    rw [decide_eq_true (show XL = XL from rfl), decide_eq_true (show UL = UL from rfl)] at hEq
                    have hCp := fun a b c d W hT => Lib.hid (copyTensorF_any a b c d xsB UB W hT (by omega) (by omega))
                    have nS : (sUp UB k ysB.length).length = UB.length := by rw [lB]; simp [sUp]
                    have nD : (dUp k ysB.length).length = UB.length := by rw [lB]; simp [dUp]
                    have NS := Lib.hid nS
                    have ND := Lib.hid nD
                    clear WF WD mS mD lB iS iD iX iY lX lY hsum hA40 hB40 hA8 hB8 nS nD
                    have p1x := E.cellN 0 rfl
                    have p2x := E.cellN 1 rfl
                    go_upto_region 9 with (first | (go_at_call 20; refine (kA _ _ _ _ _ (E.tenN 0 rfl)).out.mono ?_; rintro e w2 ⟨a2, c2, b2, d2, m2, rfl, _, hm, hI, hcap, hO, hb⟩; replace E := E.made hb hm hI hcap hO (IA.out); clear hb hm hI hcap hO; clear p1x p2x))
                    obtain ⟨V2, hV2⟩ : ∃ V : World, w2.alloc (.cells #[.slice a2 xsA.length c2, .slice b2 UA.length d2] 26) = V := ⟨_, rfl⟩
                    replace E := E.box (.slice a2 xsA.length c2) (.slice b2 UA.length d2) 26
                    rw [hV2] at E ⊢
                    clear hV2
                    have p3x := E.cellN 4 rfl
                    have p4x := E.cellN 5 rfl
                    go_upto_region 10 with (first | (go_at_call 20; refine (kB _ _ _ _ _ (E.tenN 2 rfl)).out.mono ?_; rintro e w3 ⟨a3, c3, b3, d3, m3, rfl, _, hm, hI, hcap, hO, hb⟩; replace E := E.made hb hm hI hcap hO (IB.out); clear hb hm hI hcap hO; clear p3x p4x))
                    obtain ⟨V3, hV3⟩ : ∃ V : World, w3.alloc (.cells #[.slice a3 xsB.length c3, .slice b3 UB.length d3] 26) = V := ⟨_, rfl⟩
                    replace E := E.box (.slice a3 xsB.length c3) (.slice b3 UB.length d3) 26
                    rw [hV3] at E ⊢
                    clear hV3
                    have p5x := E.cellN 6 rfl
                    have p6x := E.cellN 7 rfl
                    go_upto_region 11 with (first | (go_at_call 16; refine (kT _ _ _ _ _ (E.tenN 3 rfl)).out.mono ?_; rintro e w4 ⟨a4, c4, b4, d4, m4, rfl, _, hm, hI, ⟨hcap, hsh⟩, hO, hb⟩; replace E := E.made hb hm hI hcap hO (IY1.out); clear hb hm hI hcap hsh hO; clear p5x p6x))
                    obtain ⟨V4, hV4⟩ : ∃ V : World, w4.alloc (.cells #[.slice a4 X1.length c4, .slice b4 Y1.length d4] 26) = V := ⟨_, rfl⟩
                    replace E := E.box (.slice a4 X1.length c4) (.slice b4 Y1.length d4) 26
                    rw [hV4] at E ⊢
                    clear hV4
                    have p7x := E.cellN 0 rfl
                    have p8x := E.cellN 1 rfl
                    go_upto_region 12 with (first | (go_at_call 20; refine (kC _ _ _ _ _ (E.tenN 0 rfl)).out.mono ?_; rintro e w5 ⟨a5, c5, b5, d5, m5, rfl, _, hm, hI, hcap, hO, hb⟩; replace E := E.made hb hm hI hcap hO (IC.out); clear hb hm hI hcap hO; clear p7x p8x))
                    obtain ⟨V5, hV5⟩ : ∃ V : World, w5.alloc (.cells #[.slice a5 X1.length c5, .slice b5 UC.length d5] 26) = V := ⟨_, rfl⟩
                    replace E := E.box (.slice a5 X1.length c5) (.slice b5 UC.length d5) 26
                    rw [hV5] at E ⊢
                    clear hV5
                    have p9x := E.cellN 6 rfl
                    have p10x := E.cellN 7 rfl
                    have p11x := E.cellN 4 rfl
                    have p12x := E.cellN 5 rfl
                    go_upto_region 13 with (first | (go_at_call 10; refine (kP _ _ _ _ _ _ _ _ _ (E.tenN 3 rfl) (E.tenN 2 rfl)).out.mono ?_; rintro e w6 ⟨a6, c6, b6, d6, m6, rfl, _, hm, hI, ⟨hcap, hsh⟩, hO, hb⟩; replace E := E.made hb hm hI hcap hO (IP.out); clear hb hm hI hcap hsh hO; clear p9x p10x p11x p12x))
                    obtain ⟨V6, hV6⟩ : ∃ V : World, w6.alloc (.cells #[.slice a6 XP.length c6, .slice b6 UP.length d6] 26) = V := ⟨_, rfl⟩
                    replace E := E.box (.slice a6 XP.length c6) (.slice b6 UP.length d6) 26
                    rw [hV6] at E ⊢
                    clear hV6
                    have p13x := E.cellN 0 rfl
                    have p14x := E.cellN 1 rfl
                    have p15x := E.cellN 2 rfl
                    have p16x := E.cellN 3 rfl
                    go_upto_region 14 with (first | (go_at_call 10; refine (kL _ _ _ _ _ _ _ _ _ (E.tenN 0 rfl) (E.tenN 1 rfl)).out.mono ?_; rintro e w7 ⟨a7, c7, b7, d7, m7, rfl, _, hm, hI, ⟨hcap, hsh⟩, hO, hb⟩; replace E := E.made hb hm hI hcap hO (IL.out); clear hb hm hI hcap hsh hO; clear p13x p14x p15x p16x))
                    obtain ⟨V7, hV7⟩ : ∃ V : World, w7.alloc (.cells #[.slice a7 XL.length c7, .slice b7 UL.length d7] 26) = V := ⟨_, rfl⟩
                    replace E := E.box (.slice a7 XL.length c7) (.slice b7 UL.length d7) 26
                    rw [hV7] at E ⊢
                    clear hV7
                    have p17x := E.cellN 8 rfl
                    have p18x := E.cellN 9 rfl
                    have p19x := E.cellN 4 rfl
                    have p20x := E.cellN 5 rfl
                    go_upto_region 15 with (first | (go_at_call 10; refine (kQ _ _ _ _ _ _ _ _ _ (E.tenN 4 rfl) (E.tenN 2 rfl)).out.mono ?_; rintro e w8 ⟨a8, c8, b8, d8, m8, rfl, _, hm, hI, ⟨hcap, hsh⟩, hO, hb⟩; replace E := E.made hb hm hI hcap hO (IR.out); clear hb hm hI hcap hsh hO; clear p17x p18x p19x p20x))
                    obtain ⟨V8, hV8⟩ : ∃ V : World, w8.alloc (.cells #[.slice a8 XR.length c8, .slice b8 UR.length d8] 26) = V := ⟨_, rfl⟩
                    replace E := E.box (.slice a8 XR.length c8) (.slice b8 UR.length d8) 26
                    rw [hV8] at E ⊢
                    clear hV8
                    have p21x := E.cellN 12 rfl
                    have p22x := E.cellN 13 rfl
                    have p23x := E.cellN 0 rfl
                    have p24x := E.cellN 1 rfl
                    go_upto_region 16 with (first | (go_at_call 10; refine (kR _ _ _ _ _ _ _ _ _ (E.tenN 6 rfl) (E.tenN 0 rfl)).out.mono ?_; rintro e w9 ⟨a9, c9, b9, d9, m9, rfl, _, hm, hI, ⟨hcap, hsh⟩, hO, hb⟩; replace E := E.made hb hm hI hcap hO (IL.out); clear hb hm hI hcap hsh hO; clear p21x p22x p23x p24x))
                    obtain ⟨V9, hV9⟩ : ∃ V : World, w9.alloc (.cells #[.slice a9 XL.length c9, .slice b9 UL.length d9] 26) = V := ⟨_, rfl⟩
                    replace E := E.box (.slice a9 XL.length c9) (.slice b9 UL.length d9) 26
                    rw [hV9] at E ⊢
                    clear hV9
                    have p25x := E.cellN 4 rfl
                    have p26x := E.cellN 5 rfl
                    have p27x := E.cellN 0 rfl
                    have p28x := E.cellN 1 rfl
                    go_upto_region 18 with (first | (go_at_call 12; refine (num10_any _ _).mono ?_; rintro e w' ⟨rfl, rfl⟩) | (go_at_call 17; refine (hEq _ _ _ _ _ _ _ _ _ (E.tenN 2 rfl).sh (E.tenN 2 rfl).da (E.tenN 0 rfl).sh (E.tenN 0 rfl).da).out.mono ?_; rintro e w16 ⟨rfl, hb⟩; replace E := E.next hb; clear p25x p26x p27x p28x; have p29x := E.cellN 12 rfl; have p30x := E.cellN 13 rfl; clear hb))
                    have E0 := Lib.hid E
                    go_upto_region 19 with (first | (go_at_call 18; refine (hCp _ _ _ _ _ (E.tenN 6 rfl)).out.mono ?_; rintro e w18 ⟨a18, c18, b18, d18, m18, rfl, hm18, hn18, hI18, hcap18, hO18, hb18, _⟩; have HB18 := Lib.hid hb18; have HI18 := Lib.hid hI18; have HC18 := Lib.hid hcap18; have HO18 := Lib.hid hO18; clear p29x p30x; replace E := E.next hb18; clear hb18 hI18 hcap18 hO18))
                    obtain ⟨V18, hV18⟩ : ∃ V : World, w18.alloc (.cells #[.slice a18 xsB.length c18, .slice b18 UB.length d18] 26) = V := ⟨_, rfl⟩
                    replace E := E.alloc (.cells #[.slice a18 xsB.length c18, .slice b18 UB.length d18] 26)
                    rw [hV18] at E ⊢
                    have HV18 := Lib.hid hV18
                    clear hV18
                    have p31x := E.cellN 12 rfl
                    have p32x := E.cellN 13 rfl
                    go_upto_region 20 with (first | (go_at_call 18; refine (hCp _ _ _ _ _ (E.tenN 6 rfl)).out.mono ?_; rintro e w19 ⟨a19, c19, b19, d19, m19, rfl, hm19, hn19, hI19, hcap19, hO19, hb19, hsh19⟩; have HC19 := Lib.hid hcap19; clear p31x p32x; clear E))
                    obtain ⟨V19, hV19⟩ : ∃ V : World, w19.alloc (.cells #[.slice a19 xsB.length c19, .slice b19 UB.length d19] 26) = V := ⟨_, rfl⟩
                    obtain ⟨g1, g2, rfl, rfl, hm1, F19⟩ := fill2_start hUB1 HO18.out HV18.out hb19 hm19 hn19 hI19 hO19 hsh19 hV19
                    rw [hV19]
                    have s18 : V18.heap.size = w18.heap.size + 1 := by rw [← HV18.out]; simp
                    have k18 := HB18.out.size
                    have q1 : Below w18.heap.size w18 V18 := by rw [← HV18.out]; exact (Below.refl _ _).alloc (Nat.le_refl _) _
                    have q3 : Below w19.heap.size w19 V19 := by rw [← hV19]; exact (Below.refl _ _).alloc (Nat.le_refl _) _
                    have q4 := hb19.size
                    have q2 : Below w18.heap.size w18 V19 := q1.trans ((hb19.mono (by omega)).trans (q3.mono (by omega)))
                    have b19 : Below w16.heap.size w16 V19 := HB18.out.trans (q2.mono k18)
                    have HB19 := Lib.hid b19
                    have bI : Below m18 w18 V19 := q2.mono hm1
                    clear q1 q2 q3 q4
                    have HIS := Lib.hid (HI18.out.below bI (Nat.le_refl _))
                    clear hV19 HV18 HI18 HO18 hI19 hO19 hb19 b19 bI hsh19 hm19 hn19 hcap19 s18 k18 HB18
                    obtain ⟨fd, hfd⟩ : ∃ fd : Nat → Int, (fun (j : Nat) => 256 * (Int.tmod ((j : Int) * 7 + (k : Int)) 5 - 2)) = fd := ⟨_, rfl⟩
                    have HFD := Lib.hid hfd
                    clear hfd
                    obtain ⟨fs, hfs⟩ : ∃ fs : Nat → Int, (fun (j : Nat) => UB[j]?.getD 0 + 256 * (Int.tmod ((j : Int) * 7 + (k : Int)) 5 - 2)) = fs := ⟨_, rfl⟩
                    have HFS := Lib.hid hfs
                    clear hfs
                    generalize w18.heap.size = Q1 at *
                    generalize w19.heap.size = Q2 at *
                    have HF0 : Hid (Fill2 V19 V19 m18 Q1 g1 d18 Q2 g2 d19 UB.length (.slice a18 xsB.length c18) (.slice (some ⟨g1, 0, none⟩) UB.length d18) (.slice a19 xsB.length c19) (.slice (some ⟨g2, 0, none⟩) UB.length d19) a19 xsB (mixL fd UB 0) (mixL fs UB 0)) := Lib.hid (by rw [mixL_zero, mixL_zero]; exact F19)
                    clear F19
                    go_wp2_with fail
                    go_loopw [20] (fun i wr => ∃ j : Nat, j ≤ UB.length ∧ i = .int .i64 j ∧ Hid (Fill2 V19 wr m18 Q1 g1 d18 Q2 g2 d19 UB.length (.slice a18 xsB.length c18) (.slice (some ⟨g1, 0, none⟩) UB.length d18) (.slice a19 xsB.length c19) (.slice (some ⟨g2, 0, none⟩) UB.length d19) a19 xsB (mixL fd UB j) (mixL fs UB j))) (fun i _ => UB.length - (intOf i).toNat)
                    case atStart => exact ⟨0, Nat.zero_le _, rfl, HF0⟩
                    case round =>
                      obtain ⟨j, hj, rfl, HF⟩ := hrel
                      obtain ⟨wi, rfl⟩ : ∃ wi : World, wi = wr := ⟨_, rfl⟩
                      clear HF0
                      obtain ⟨t0, t1, _, _⟩ := HF.out.boxd
                      by_cases hjl : j < UB.length
                      · obtain ⟨fc1, fc2⟩ := HF.out.celld j hjl
                        obtain ⟨r5, hr5, hr0, hr1⟩ : ∃ r : Int, Int.tmod ((j : Int) * 7 + (k : Int)) 5 = r ∧ 0 ≤ r ∧ r ≤ 4 := ⟨_, rfl, by rw [tmod_nat]; omega, by rw [tmod_nat]; omega⟩
                        have hfj : fd j = 256 * (r5 - 2) := by rw [← HFD.out, ← hr5]
                        have hsj : fs j = UB[j]?.getD 0 + 256 * (r5 - 2) := by rw [← HFS.out, ← hr5]
                        have HFJ := Lib.hid hfj
                        have HSJ := Lib.hid hsj
                        have e5 : ∀ [Inhabited Unit], Int.tmod ((j : Int) * 7 + (k : Int)) 5 = r5 := hr5
                        have HR5 := Lib.hid hr5
                        have hjn : (0 : Int) ≤ (j : Int) := by omega
                        clear hfj hsj hr5
                        go_upto_region 24 with fail
                        obtain ⟨wj, hwj⟩ : ∃ W : World, wi.setCell ⟨g1, j, none⟩ (.int .i64 (256 * (r5 - 2))) = W := ⟨_, rfl⟩
                        have FJ := HF.out.setd j (256 * (r5 - 2))
                        rw [hwj] at FJ ⊢
                        have HFj := Lib.hid FJ
                        obtain ⟨t0, t1, _, _⟩ := HFj.out.boxd
                        obtain ⟨u0, u1, _, _⟩ := HFj.out.boxs
                        have gd := (HFj.out.celld j hjl).1
                        rw [List.getElem?_set_self (by rw [mixL_len]; exact hjl)] at gd
                        simp only [Option.getD_some] at gd
                        obtain ⟨gs1, gs2⟩ := HFj.out.cells j hjl
                        have E := E0.out.next (HB19.out.trans (HFj.out.bel.mono hm18))
                        obtain ⟨bu, ou, eu, _, cu⟩ := (E.tenN 6 rfl).da.cell j hjl
                        have hub := HBB.out j
                        have HF8 := Lib.hid ((HFj.out.sets j (fs j)).next (below_drewN (Below.refl _ _) 1))
                        rw [mixL_set, ← HFJ.out, mixL_set, HSJ.out] at HF8
                        generalize UB[j]?.getD 0 = ub at *
                        subst eu
                        have p33x := E.cellN 13 rfl
                        clear FJ hwj HF HFj fc1 fc2 E
                        go_region
                        all_goals
                          go_wp2
                          go_roundw
                          case rel => exact ⟨j + 1, by omega, by go_num, HF8⟩
                          case measure => simp [intOf]; omega
                      · have hje : j = UB.length := by omega
                        as_aux_lemma =>
                          subst hje
                          have E := E0.out.next (HB19.out.trans (HF.out.bel.mono hm18))
                          have rd := HF.out.rowd
                          have rs := HF.out.rows
                          have ed : mixL fd UB UB.length = dUp k ysB.length := by rw [mixL_full, ← HFD.out, HLB.out]; rfl
                          have es : mixL fs UB UB.length = sUp UB k ysB.length := by rw [mixL_full, ← HFS.out, HLB.out]; rfl
                          rw [ed] at rd
                          rw [es] at rs
                          generalize sUp UB k ysB.length = US at *
                          generalize dUp k ysB.length = UD at *
                          have hsz2 := HF.out.sz
                          have lt1 := HF.out.ltd
                          have td := ten_made (W' := wi) (xs := xsB) (ys := UD) (c := c18) (d := d18) (by omega) (HIS.out.below HF.out.bel (Nat.le_refl _)) HC18.out (by rw [ND.out]; exact rd) ID.out
                          have ts := ten_row (W' := wi) (xs := xsB) (ys := US) (c := c19) (d := d19) HF.out.sh HC19.out (by rw [NS.out]; exact rs) IS.out
                          obtain ⟨u0, u1, _, _⟩ := HF.out.boxs
                          replace E := ((((E.addT td).addC t1).addC t0).addT ts).addC u1
                          replace E := E.addC u0
                          rw [NS.out] at kS
                          rw [ND.out] at kD
                          clear td ts rd rs HF ed es t0 t1 u0 u1 hsz2 lt1 hj hjl E0 HIS HB19 HFD HFS hEq hCp kA kB kT kC kP kL kQ kR
                          have p34x := E.cellN 18 rfl
                          have p35x := E.cellN 19 rfl
                          have p36x := E.cellN 0 rfl
                          have p37x := E.cellN 1 rfl
                          have p38x := E.cellN 3 rfl
                          go_upto_region 26 with (first | (go_at_call 10; refine (kS _ _ _ _ _ _ _ _ _ (E.tenN 9 rfl) (E.tenN 0 rfl)).out.mono ?_; rintro e w20 ⟨a20, c20, b20, d20, m20, rfl, _, hm, hI, ⟨hcap, hsh⟩, hO, hb⟩; replace E := E.made hb hm hI hcap hO (IX.out); clear hb hm hI hcap hsh hO; clear p34x p35x p36x p37x p38x))
                          obtain ⟨V20, hV20⟩ : ∃ V : World, w20.alloc (.cells #[.slice a20 XP.length c20, .slice b20 UX.length d20] 26) = V := ⟨_, rfl⟩
                          replace E := E.box (.slice a20 XP.length c20) (.slice b20 UX.length d20) 26
                          rw [hV20] at E ⊢
                          clear hV20
                          have p39x := E.cellN 20 rfl
                          have p40x := E.cellN 21 rfl
                          have p41x := E.cellN 4 rfl
                          have p42x := E.cellN 5 rfl
                          go_upto_region 27 with (first | (go_at_call 10; refine (kD _ _ _ _ _ _ _ _ _ (E.tenN 10 rfl) (E.tenN 2 rfl)).out.mono ?_; rintro e w21 ⟨a21, c21, b21, d21, m21, rfl, _, hm, hI, ⟨hcap, hsh⟩, hO, hb⟩; replace E := E.made hb hm hI hcap hO (IY.out); clear hb hm hI hcap hsh hO; clear p39x p40x p41x p42x))
                          obtain ⟨V21, hV21⟩ : ∃ V : World, w21.alloc (.cells #[.slice a21 XP.length c21, .slice b21 UY.length d21] 26) = V := ⟨_, rfl⟩
                          replace E := E.box (.slice a21 XP.length c21) (.slice b21 UY.length d21) 26
                          rw [hV21] at E ⊢
                          clear hV21
                          have p43x := E.cellN 3 rfl
                          have p44x := E.cellN 1 rfl
                          have p45x := E.cellN 15 rfl
                          have l1 := LX.out
                          have l2 := LY.out
                          have f1 : ((UX.length : Int) != (UY.length : Int)) = false := by rw [l1, l2]; simp
                          have f2 : ((UX.length : Int) != (UP.length : Int)) = false := by rw [l1]; simp
                          clear l1 l2
                          go_upto_region 29 with (first | (go_at_call 12; refine (num10_any _ _).mono ?_; rintro e w' ⟨rfl, rfl⟩))
                          go_wp2_with fail
                          go_loopw [25] (fun i wr => ∃ j q : Nat, j ≤ UX.length ∧ i = .int .i64 j ∧ wr = V21.drewN q) (fun i _ => UX.length - (intOf i).toNat)
                          case atStart => exact ⟨0, 0, Nat.zero_le _, rfl, rfl⟩
                          case round =>
                            obtain ⟨j, q, hj, rfl, rfl⟩ := hrel
                            by_cases hjl : j < UX.length
                            · have hj1 : j < UY.length := by rw [LY.out, ← LX.out]; exact hjl
                              have hj2 : j < UP.length := by rw [← LX.out]; exact hjl
                              obtain ⟨bx1, ox1, ex1, _, cx1⟩ := (E.tenN 1 rfl).da.cell j hjl
                              obtain ⟨by1, oy1, ey1, _, cy1⟩ := (E.tenN 0 rfl).da.cell j hj1
                              obtain ⟨bp1, op1, ep1, _, cp1⟩ := (E.tenN 7 rfl).da.cell j hj2
                              rw [HSUM.out j hj2] at cx1
                              rw [List.getElem?_eq_getElem hj1, List.getElem?_eq_getElem hj2] at cx1
                              rw [List.getElem?_eq_getElem hj1] at cy1
                              rw [List.getElem?_eq_getElem hj2] at cp1
                              simp only [Option.getD_some] at cx1 cy1 cp1
                              have by_ := isW_iff.1 (IY.out _ (List.getElem_mem hj1))
                              have bp_ := isW_iff.1 (IP.out _ (List.getElem_mem hj2))
                              have hXb := (E.tenN 1 rfl).da.len
                              have hi1 : (0 : Int) ≤ (j : Int) := by omega
                              have hi2 : (j : Int) < (UX.length : Int) := by omega
                              have hi3 : (j : Int) < (UY.length : Int) := by omega
                              have hi4 : (j : Int) < (UP.length : Int) := by omega
                              generalize UY[j] = vy at *
                              generalize UP[j] = vp at *
                              subst ex1
                              subst ey1
                              subst ep1
                              have e1 : ∀ [Inhabited Unit], IntKind.i64.wrap (vy + vp) = vy + vp := by intro _; rw [IntWalk.i64_left]; exact IntWalk.wrap64_in _ ⟨by omega, by omega⟩
                              go_upto_region 32 with fail
                              go_quiet (fail)
                              go_wp2
                              go_roundw
                              case rel => exact ⟨j + 1, _, by omega, by go_num, rfl⟩
                              case measure => simp [intOf]; omega
                            · have hje : j = UX.length := by omega
                              replace E := E.drewN q
                              clear hj
                              go_wp2
                              go_roundw
                              case rel => exact ⟨k + 1, by omega, by go_num, HB.out.trans (E.bel.mono hsz)⟩
                              case measure => simp [intOf]; omega
    · -- the end
      have HB := Lib.hid hbel
      have hsz := hbel.size
      have HW := Lib.hid (wakes10_any wo)
      clear hbel h
      by_cases hlt : k < n
      · have h20 : ¬ k < 6 := fun h => hend ⟨hlt, h⟩
        clear hend
        go_wp2_with (go_at_call 15; refine HW.out.mono ?_; rintro e w1 ⟨rfl, hb⟩)
        go_ret
        exact ⟨rfl, HB.out.trans (hb.mono hsz)⟩
      · clear hend
        go_wp2_with (go_at_call 15; refine HW.out.mono ?_; rintro e w1 ⟨rfl, hb⟩)
        go_ret
        exact ⟨rfl, HB.out.trans (hb.mono hsz)⟩

end Go.Proofs.Ytjjgmdnmhfoacaa
