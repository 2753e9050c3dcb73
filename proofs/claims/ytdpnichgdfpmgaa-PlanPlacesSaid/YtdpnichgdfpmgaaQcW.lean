/- Walks: plan.gaps, and what it hands over. -/
import Derived.Test.YtdpnichgdfpmgaaQbV
import Derived.Test.YtdpnichgdfpmgaaQcP
import Derived.Test.YtdpnichgdfpmgaaKept
import Derived.Test.YtdpnichgdfpmgaaPoM
import Derived.Test.YtdpnichgdfpmgaaInvIn
import Derived.RangeFuncNested
import Derived.LoopIn
import Derived.LoopNIn
import Derived.OwnWalkIn
import Derived.RangeFuncBound
import Derived.RangeFuncCalls
import Derived.RangeFuncFrom
import Derived.RangeFuncLeaves
import Derived.Sort.CutIn
import Derived.Sort.LoopGhostIn
import Derived.TacticsInMore
import Derived.Deep.CutRange
set_option linter.unusedVariables false
set_option linter.unusedSimpArgs false
namespace Go.Proofs.Ytdpnichgdfpmgaa
open Go.RowKit Go.Rt
attribute [local go_sem] Oper.semAt_some
theorem qgaps_any (v : Value) (w : World) (hv : ∃ a m c, v = .slice a m c) : Calls Try.prog 22 #[v] w fun e w' => e = .returned (.func (.func 27) #[] #[.pointer (some ⟨w.heap.size, 0, none⟩)]) ∧ Fr w.heap.size w w' [(w.heap.size, [v])] [] [] [] := by
  obtain ⟨a, m, c, rfl⟩ := hv
  have F1 := Lib.hid ((Fr.start (w := w) (I := []) (by simp)).box1 (b := w.heap.size) rfl [.slice a m c] 23)
  simp only [List.nil_append] at F1
  go_enter Try.func22, Try.ntmps22
  go_wp2
  go_ret
  exact ⟨rfl, F1.out⟩
set_option maxRecDepth 100000 in
set_option maxHeartbeats 2000000 in
/-- The iterator of the gaps, called at yield of loop l. -/
theorem gapsIter (n : Nat) (hn : 2 ≤ n) (l B m S : Nat) (hS : S ≤ S) (a : Option Addr) (c : Nat) (T : Nat → Buf) (W : World) (J : Nat → World → Prop) (Jx : World → Prop) (hm : m ≤ 1000000)
    (hT : ∀ i, i < m → 0 ≤ (T i).pl ∧ (T i).pl ≤ 1000000000 ∧ 0 ≤ (T i).sz ∧ (T i).sz ≤ 65536)
    (hJ : ∀ k W1 W2, J k W1 → Below S W1 W2 → J k W2)
    (hJB : ∀ k W1, J k W1 → S ≤ W1.heap.size ∧ BoxL W1 B [.slice a m c] ∧ BL W1 S a m T)
    (hskip : ∀ k W1, k < m → (T k).pl ≤ atJ T k → J k W1 → J (k + 1) W1)
    (hY : ∀ k W1, k < m → atJ T k < (T k).pl → J k W1 → YieldAt Fence.wide (n - 1) Try.prog l #[.int .i64 (atJ T k), .int .i64 ((T k).pl - atJ T k)] W1 fun e W' => Kept S W1 W' ∧ ((e = .returned (.bool true) ∧ J (k + 1) W') ∨ (e = .returned (.bool false) ∧ Jx W')))
    (hL : ∀ W1, J m W1 → YieldAt Fence.wide (n - 1) Try.prog l #[.int .i64 (atJ T m), .int .i64 (-1)] W1 fun e W' => e = .returned (.bool false) ∧ Jx W')
    (h0 : J 0 W) :
    CallsIn Fence.wide n Try.prog 27 #[.func (.yield l) #[] #[], .pointer (some ⟨B, 0, none⟩)] W fun e W' => (∃ v, e = .returned v) ∧ Jx W' := by
  have h1n : 1 ≤ n := by omega
  have hbd : ∀ k, k ≤ m → 0 ≤ atJ T k ∧ atJ T k ≤ 1000065536 := fun k hk => ⟨atJ_nn T k, atJ_le T (by decide) k fun i hi => by have := hT i (by omega); omega⟩
  have HBD := Lib.hid hbd
  have HT := Lib.hid hT
  have HJ := Lib.hid hJ
  have HJB := Lib.hid hJB
  have HSK := Lib.hid hskip
  have HY := Lib.hid hY
  have HL := Lib.hid hL
  have H0 := Lib.hid h0
  obtain ⟨_, c0, _⟩ := hJB 0 W h0
  have y0 := c0.cell 0 _ rfl
  clear hbd hT hJ hJB hskip hY hL h0 c0
  refine callsIn_of_wp Try.func27 rfl trivial ?_ rfl
  simp only [Try.ntmps27, List.size_toArray, List.length_cons, List.length_nil, Nat.reduceAdd, Nat.reduceSub, Array.replicate_succ, Array.replicate_zero, List.push_toArray, List.append_toArray, List.nil_append, List.cons_append]
  gi_wp2
  clear y0
  gi_loopw [3, 8] (fun s3 s8 wr => ∃ k : Nat, k ≤ m ∧ s3 = .int .i64 (atJ T k) ∧ s8 = .int .i64 (k : Nat) ∧ Hid (J k wr)) (fun _ s8 _ => m - (intOf s8).toNat)
  case atStart => exact ⟨0, Nat.zero_le _, rfl, rfl, H0⟩
  case round =>
    obtain ⟨k, hk, rfl, rfl, HJT⟩ := hrel
    clear H0
    obtain ⟨wo, rfl⟩ : ∃ x : World, x = wr := ⟨_, rfl⟩
    have hb := HBD.out k hk
    obtain ⟨hSz, _, hBL⟩ := HJB.out k wo HJT.out
    by_cases hlt : k < m
    · skip
      have hki : (k : Int) < (m : Int) := by omega
      have hb2 := HBD.out (k + 1) hlt
      have ht := HT.out k hlt
      have hst : atJ T (k + 1) = if atJ T k < (T k).pl + (T k).sz then (T k).pl + (T k).sz else atJ T k := rfl
      obtain ⟨b, o, rfl, hl, d0, d1, d2, d3⟩ := hBL.four hlt
      have hskk := HSK.out k
      have hyk := HY.out k
      obtain ⟨⟨e1, e2, e3, e4⟩, hx⟩ : ∃ z, T k = z := ⟨_, rfl⟩
      rw [hx] at d0 d1 d2 d3 ht hst hskk hyk
      obtain ⟨A, hA⟩ : ∃ z, atJ T k = z := ⟨_, rfl⟩
      obtain ⟨A2, hA2⟩ : ∃ z, atJ T (k + 1) = z := ⟨_, rfl⟩
      rw [hA] at hb hst hskk hyk ⊢
      rw [hA2] at hb2 hst
      simp only at ht hst hskk hyk
      have HA2 := Lib.hid hA2
      have HST := Lib.hid hst
      have HSKK := Lib.hid hskk
      have HYK := Lib.hid hyk
      have HJ2 : Hid (J k (wo.alloc (.cells #[.int .i64 e1, .int .i64 e2, .int .i64 e3, .int .i64 e4] 36))) := Lib.hid (HJ.out k _ _ HJT.out ((Below.refl S wo).alloc hSz _))
      clear hBL hx hA hA2 hst hskk hyk HJT
      have hmx : A < e4 + e3 → A2 = e4 + e3 := fun h => by rw [HST.out, if_pos h]
      have hmx2 : ¬ A < e4 + e3 → A2 = A := fun h => by rw [HST.out, if_neg h]
      have HM1 := Lib.hid hmx
      have HM2 := Lib.hid hmx2
      clear hmx hmx2
      by_cases hgt : A < e4
      · skip
        obtain ⟨fn, tmps, assign, body, hy, hRR⟩ := HYK.out _ hlt hgt HJ2.out
        have HR := Lib.hid hRR
        clear hRR
        gi_wp2
        refine HR.out.mono ?_
        rintro e W3 ⟨hkp, ⟨rfl, hJ3⟩ | ⟨rfl, hJx⟩⟩
        · skip
          have HJ3 := Lib.hid hJ3
          have hbn := BoxL.new wo [.int .i64 e1, .int .i64 e2, .int .i64 e3, .int .i64 e4] 36
          have n0 := hkp.cell (hbn.cell 0 _ rfl) hSz (by simp)
          have n1 := hkp.cell (hbn.cell 1 _ rfl) hSz (by simp)
          have n2 := hkp.cell (hbn.cell 2 _ rfl) hSz (by simp)
          have n3 := hkp.cell (hbn.cell 3 _ rfl) hSz (by simp)
          clear hy hbn hkp hJ3 d0 d1 d2 d3 HJ2 HR
          by_cases hq : A < e4 + e3
          · have hA2 := HM1.out hq
            gi_wp2
            go_roundw
            case rel => exact ⟨k + 1, hlt, by rw [HA2.out, hA2], by first | rfl | go_num, HJ3⟩
            case measure => (simp only [intOf]; omega)
          · skip
            exfalso
            omega
        · skip
          have HJX := Lib.hid hJx
          clear hJx hy
          gi_wp2
          (try simp only [Exit.noGoto, Exit.inBlock, Exit.then])
          refine bodyPost_ret (results_none rfl _ _ _) rfl ?_
          exact ⟨⟨_, rfl⟩, HJX.out⟩
      · skip
        have HJ3 := Lib.hid (HSKK.out _ hlt (by omega) HJ2.out)
        clear HYK
        by_cases hq : A < e4 + e3
        · have hA2 := HM1.out hq
          gi_wp2
          refine ⟨(by intro f hf; cases hf), ?_⟩
          gi_wp2
          go_roundw
          case rel => exact ⟨k + 1, hlt, by rw [HA2.out, hA2], by first | rfl | go_num, HJ3⟩
          case measure => (simp only [intOf]; omega)
        · have hA2 := HM2.out (by omega)
          gi_wp2
          refine ⟨(by intro f hf; cases hf), ?_⟩
          gi_wp2
          go_roundw
          case rel => exact ⟨k + 1, hlt, by rw [HA2.out, hA2], by first | rfl | go_num, HJ3⟩
          case measure => (simp only [intOf]; omega)
    · obtain rfl : k = m := by omega
      obtain ⟨fn, tmps, assign, body, hy, hRR⟩ := HL.out _ HJT.out
      have HR := Lib.hid hRR
      clear hRR
      gi_wp2
      refine HR.out.mono ?_
      rintro e W3 ⟨rfl, hJx⟩
      have HJX := Lib.hid hJx
      clear hJx hy
      gi_wp2
      (try simp only [Exit.noGoto, Exit.inBlock, Exit.then])
      go_end0
      exact ⟨⟨_, rfl⟩, HJX.out⟩
end Go.Proofs.Ytdpnichgdfpmgaa
