/- The law ConvOnes, walked. -/
import Derived.Test.YtadlnmckcnfacaaTCoZ
import Derived.Test.YtadlnmckcnfacaaTCoBk
import Derived.Test.YtadlnmckcnfacaaTCoQ
import Derived.Test.YtadlnmckcnfacaaTCoJ
import Derived.Test.YtadlnmckcnfacaaTCoV
import Derived.Test.YtadlnmckcnfacaaTCoY
import Derived.Test.YtadlnmckcnfacaaTRdV
set_option linter.unusedVariables false
set_option linter.unusedSimpArgs false
namespace Go.Proofs.Ytadlnmckcnfacaa
open Go.RowKit Go.Rt
attribute [local go_sem] Oper.semAt_some
/-- The words of the kernel, filled up to row k. -/
def fillD (n f k : Nat) : List Int := (List.range (n * n)).map fun i => if i / n = i % n ∧ i / n < k then 2 ^ f else 0
theorem fillD_len (n f k : Nat) : (fillD n f k).length = n * n := by simp [fillD]
theorem fillD_zero (n f : Nat) : fillD n f 0 = List.replicate (n * n) 0 := by
  refine List.ext_getElem (by simp [fillD]) (fun i h1 h2 => ?_)
  simp [fillD]
theorem fillD_set {n f k : Nat} (h : k < n) : (fillD n f k).set (k * n + k) (2 ^ f) = fillD n f (k + 1) := by
  refine List.ext_getElem (by simp [fillD]) (fun i h1 h2 => ?_)
  have e1 : (k * n + k) / n = k := by rw [Nat.mul_comm, Nat.mul_add_div (by omega), Nat.div_eq_of_lt h, Nat.add_zero]
  have e2 : (k * n + k) % n = k := by rw [Nat.mul_comm, Nat.mul_add_mod, Nat.mod_eq_of_lt h]
  rw [List.getElem_set]
  simp only [fillD, List.getElem_map, List.getElem_range]
  by_cases he : k * n + k = i
  · subst he
    rw [if_pos rfl, e1, e2, if_pos ⟨rfl, by omega⟩]
  · rw [if_neg he]
    by_cases h3 : i / n = i % n
    · have hne : i / n ≠ k := fun q => he (by have h9 := Nat.div_add_mod i n; rw [← h3, q, Nat.mul_comm] at h9; exact h9)
      by_cases h4 : i / n < k
      · rw [if_pos ⟨h3, h4⟩, if_pos ⟨h3, by omega⟩]
      · rw [if_neg (fun q => h4 q.2), if_neg (fun q => by have := q.2; omega)]
    · rw [if_neg (fun q => h3 q.1), if_neg (fun q => h3 q.1)]
theorem ints_none {w : World} {hi : Nat} : Ints .i64 w hi none [] := ⟨by simp, (fun x hx => by cases hx), fun i h => absurd h (by simp)⟩
/-- 'make' of elements of one cell. -/
theorem wpl_makeO {P : Program} {w : World} {ops : Array Oper} {rest : List Oper} {o : Oper} {a : Act} {Q : Exit → Act → World → Prop} (T E : TypeId) (v0 : Value) (by0 : Nat) (hby : by0 ≤ 16) (hv : v0.cells = #[v0])
    (hinf : (P.info? E).map (fun i => (i.zero, i.size, i.bytes)) = some (some v0, 1, by0)) (hu : P.underlying T = some (.slice E))
    (base : Nat) (n : Nat) (L C : Int) (l c : Operand) (hg : o.guard = none) (hop : o.op = Op.makeSlice T l c) (hl : a.eval l = .int .i64 L) (hc : a.eval c = .int .i64 C) (hL : L = (n : Int)) (hC : C = (n : Int))
    (hn : n ≤ 17592186044416) (hb : base ≤ w.heap.size)
    (hK : ∀ w', w'.ownsRow base E 1 (.slice (some ⟨w.heap.size, 0, none⟩) n n) n (List.replicate n v0) → (∀ B, B ≤ w.heap.size → Below B w w') → w'.heap.size = w.heap.size + 1 →
      wpList P ops Q rest (a.put o.dst (.slice (some ⟨w.heap.size, 0, none⟩) n n)) w') : wpList P ops Q (o :: rest) a w := by
  obtain ⟨i, hi, hz0, hz1, hz2⟩ := info_parts hinf
  refine wpList_plain hg fun K hK' => ?_
  subst hL; subst hC
  have hmul : by0 * n ≤ 16 * n := Nat.mul_le_mul_right n hby
  have hmul2 : (by0 : Int) * (n : Int) ≤ 281474976710656 := by
    have : ((by0 * n : Nat) : Int) ≤ 281474976710656 := by omega
    rwa [Int.natCast_mul] at this
  have hr := run_make (P := P) w T E i v0 hu hi hz0 .i64 .i64 n n (by omega) (Int.le_refl _) (by rw [hz2]; exact hmul2) (by omega)
  simp only [Int.toNat_natCast, hz1, Nat.mul_one, hv] at hr
  unfold Oper.wp
  simp [execOp, hop, hl, hc, hr, Result.andThen]
  refine hK' _ _ (hK _ ?_ (fun B hB => (Below.refl _ _).alloc hB _) (by simp))
  rw [← toList_madeCells_one]
  exact World.ownsRow_lit w _ n hb (by unfold maxLen; omega) (by rw [size_madeCells, Nat.mul_one])
theorem fillD_all {n f : Nat} (h : 1 ≤ n) : fillD n f n = oneD n f := by
  refine List.ext_getElem (by simp [fillD, oneD]) (fun i h1 h2 => ?_)
  simp only [fillD, oneD, List.getElem_map, List.getElem_range]
  have hl : i < n * n := by simpa [fillD] using h1
  have hd : i / n < n := Nat.div_lt_of_lt_mul hl
  by_cases h3 : i / n = i % n
  · rw [if_pos ⟨h3, hd⟩, if_pos h3]
  · rw [if_neg (fun q => h3 q.1), if_neg h3]
theorem ones_ten {xs ys : List Int} (hg : tenB xs ys = true) (h3 : 3 ≤ xs.length) (hz : colZ xs (oneW xs).K (oneW xs) = 0) (hc : clWs xs ys (oneW xs) = ys) : tenB (colS xs (oneW xs)) ys = true := by
  have tx := tenB_iff.1 hg
  obtain ⟨_, _, _, e4⟩ := colZ_ok hz
  refine tenB_iff.2 ⟨e4, ?_, tx.2.2⟩
  have hp : 1 ≤ prodI (colS xs (oneW xs)) := (goodB_dims e4).pos
  have hl : (clWs xs ys (oneW xs)).length = (prodI (colS xs (oneW xs))).toNat := by simp [clWs, clN]
  rw [hc] at hl
  omega
set_option maxRecDepth 100000 in
set_option maxHeartbeats 8000000 in
theorem convOnes_any (q : Option Addr) (n c0 : Nat) (w : World) (h : AsksAt11 w w.heap.size q n) :
    Calls Try.prog 5 #[.slice q n c0] w fun e w' => e = .returned (.bool true) ∧ Below w.heap.size w w' := by
  have hm := h.len
  go_enter Try.func5, Try.ntmps5
  go_wp2_with fail
  go_loopw [3] (fun i wr => ∃ k : Nat, k ≤ n ∧ i = .int .i64 k ∧ Below w.heap.size w wr) (fun i _ => n - (intOf i).toNat)
  case atStart => exact ⟨0, Nat.zero_le _, rfl, Below.refl _ _⟩
  case round =>
    obtain ⟨k, hk, rfl, hbel⟩ := hrel
    obtain ⟨wo, rfl⟩ : ∃ wo : World, wo = wr := ⟨_, rfl⟩
    by_cases hend : k < n ∧ k < 4
    · obtain ⟨hlt, h20⟩ := hend
      obtain ⟨b0, o_, ⟨a, c, b, d, xs, ys⟩, ⟨a2, c2, b2, dw, ws, vs⟩, aQ, aS, aP, aD, aI, aJ, cQ, cS, cP, cD, cI, cJ, Q, S, P, D, I, J, f, rfl, ht⟩ := h.at_ k hlt
      replace ht := ht.below hbel
      have hsz := hbel.size
      have HB := Lib.hid hbel
      obtain ⟨wv, hwv⟩ : ∃ v : WinV, v = ⟨xs.drop 2, ws.drop 2, S, P, D⟩ := ⟨_, rfl⟩
      obtain ⟨rfl, rfl, rfl⟩ : S = wv.S ∧ P = wv.P ∧ D = wv.D := by rw [hwv]; exact ⟨rfl, rfl, rfl⟩
      have HL := Lib.hid (show wv.L = xs.drop 2 by rw [hwv])
      have HK := Lib.hid (show wv.K = ws.drop 2 by rw [hwv])
      clear hwv
      have tA := ht.tA
      have tB := ht.tB
      dsimp only at tA tB
      have HI0 := Lib.hid (tA.sh.mono hsz)
      have HI1 := Lib.hid (tA.da.mono hsz)
      have HI2 := Lib.hid (tB.sh.mono hsz)
      have HI3 := Lib.hid (tB.da.mono hsz)
      have HI4 := Lib.hid (ht.tQ.mono hsz)
      have HI5 := Lib.hid (ht.tS.mono hsz)
      have HI6 := Lib.hid (ht.tP.mono hsz)
      have HI7 := Lib.hid (ht.tD.mono hsz)
      have HI8 := Lib.hid (ht.tI.mono hsz)
      have HI9 := Lib.hid (ht.tJ.mono hsz)
      have HF9 := Lib.hid (And.intro ht.f0 ht.f1)
      have HC1 := Lib.hid (And.intro tA.c1 tA.c2)
      have HC2 := Lib.hid (And.intro tA.d1 tA.d2)
      have HC3 := Lib.hid (And.intro tB.c1 tB.c2)
      have HC4 := Lib.hid (And.intro tB.d1 tB.d2)
      have HHV := Lib.hid (fun W h0 h1 h2 h3 h4 h5 h6 h7 h8 h9 => heavy11_any a b a2 b2 aQ aS aP aD aI aJ c d c2 dw cQ cS cP cD cI cJ xs ys ws vs Q wv.S wv.P wv.D I J f W h0 h1 h2 h3 h4 h5 h6 h7 h8 h9 HC3.out.1)
      have HTX := Lib.hid (fun W (h : Ints .i64 W W.heap.size a xs) (h2 : Ints .i64 W W.heap.size b ys) => tenMay_any a b c d xs ys W h h2)
      have HTW := Lib.hid (fun W (h : Ints .i64 W W.heap.size a2 ws) (h2 : Ints .i64 W W.heap.size b2 vs) => tenMay_any a2 b2 c2 dw ws vs W h h2)

      have q0 := ht.c0
      have q1 := ht.c1
      have q2 := ht.c2
      have q3 := ht.c3
      have q4 := ht.c4
      have q5 := ht.c5
      have q6 := ht.c6
      have q7 := ht.c7
      have q8 := ht.c8
      have q9 := ht.c9
      have q10 := ht.c10
      dsimp only at q0 q1 q2 q3 q4 q5 q6 q7 q8 q9 q10
      clear ht tA tB hbel h
      have F1 := Lib.hid ((Fr.start (w := wo) (I := [(.i64, a, xs), (.i64, b, ys), (.i64, a2, ws), (.i64, b2, vs), (.i64, aQ, Q), (.i64, aS, wv.S), (.i64, aP, wv.P), (.i64, aD, wv.D), (.i64, aI, I), (.i64, aJ, J)]) (by intro z hz; simp at hz; rcases hz with rfl | rfl | rfl | rfl | rfl | rfl | rfl | rfl | rfl | rfl; exact HI0.out; exact HI1.out; exact HI2.out; exact HI3.out; exact HI4.out; exact HI5.out; exact HI6.out; exact HI7.out; exact HI8.out; exact HI9.out)).box1 (b := wo.heap.size) rfl [.slice a xs.length c, .slice b ys.length d, .slice a2 ws.length c2, .slice b2 vs.length dw, .slice aQ Q.length cQ, .slice aS wv.S.length cS, .slice aP wv.P.length cP, .slice aD wv.D.length cD, .slice aI I.length cI, .slice aJ J.length cJ, .int .i64 f] 30)
      simp only [List.nil_append] at F1
      clear HI0 HI1 HI2 HI3 HI4 HI5 HI6 HI7 HI8 HI9
      go_upto_region 5 with fail
      obtain ⟨W1, hW1⟩ : ∃ W1, wo.alloc (.cells #[.slice a xs.length c, .slice b ys.length d, .slice a2 ws.length c2, .slice b2 vs.length dw, .slice aQ Q.length cQ, .slice aS wv.S.length cS, .slice aP wv.P.length cP, .slice aD wv.D.length cD, .slice aI I.length cI, .slice aJ J.length cJ, .int .i64 f] 30) = W1 := ⟨_, rfl⟩
      rw [hW1] at F1 ⊢
      clear hW1 q0 q1 q2 q3 q4 q5 q6 q7 q8 q9 q10
      have c0_0 := F1.out.c 0 0 rfl rfl
      have c0_1 := F1.out.c 0 1 rfl rfl
      have c0_2 := F1.out.c 0 2 rfl rfl
      have c0_3 := F1.out.c 0 3 rfl rfl
      have c0_4 := F1.out.c 0 4 rfl rfl
      have c0_5 := F1.out.c 0 5 rfl rfl
      have c0_6 := F1.out.c 0 6 rfl rfl
      have c0_7 := F1.out.c 0 7 rfl rfl
      have c0_8 := F1.out.c 0 8 rfl rfl
      have c0_9 := F1.out.c 0 9 rfl rfl
      have c0_10 := F1.out.c 0 10 rfl rfl
      go_upto_if 33 with (first | (go_at_call 7; refine (HHV.out W1 (F1.out.lw 0 rfl) (F1.out.lw 1 rfl) (F1.out.lw 2 rfl) (F1.out.lw 3 rfl) (F1.out.lw 4 rfl) (F1.out.lw 5 rfl) (F1.out.lw 6 rfl) (F1.out.lw 7 rfl) (F1.out.lw 8 rfl) (F1.out.lw 9 rfl)).mono ?_; rintro e w2 ⟨⟨hvB, rfl, hlt9⟩, hb⟩; have F2 := Lib.hid (F1.out.next hb); have HLT := Lib.hid hlt9; clear hb hlt9 F1 c0_0 c0_1 c0_2 c0_3 c0_4 c0_5 c0_6 c0_7 c0_8 c0_9 c0_10; have c0_0 := F2.out.c 0 0 rfl rfl; have c0_1 := F2.out.c 0 1 rfl rfl; have c0_2 := F2.out.c 0 2 rfl rfl; have c0_3 := F2.out.c 0 3 rfl rfl; have c0_4 := F2.out.c 0 4 rfl rfl; have c0_5 := F2.out.c 0 5 rfl rfl; have c0_6 := F2.out.c 0 6 rfl rfl; have c0_7 := F2.out.c 0 7 rfl rfl; have c0_8 := F2.out.c 0 8 rfl rfl; have c0_9 := F2.out.c 0 9 rfl rfl; have c0_10 := F2.out.c 0 10 rfl rfl) | fail)
      cases hvB with
      | true =>
        go_wp2
        go_ret
        exact ⟨rfl, HB.out.trans (F2.out.bel.mono HB.out.size)⟩
      | false =>
        have HLI := Lib.hid (HLT.out rfl)
        clear HLT HHV HTW
        have htx := HTX.out
        clear HTX
        cases htb : tenB xs ys with
        | false =>
          rw [htb] at htx
          have HTX := Lib.hid htx
          clear htx htb
          go_wp2_with (first | (go_at_call 8; refine (HTX.out _ (F2.out.lw 0 rfl) (F2.out.lw 1 rfl)).mono ?_; rintro e w3 ⟨rfl, hb⟩; have F3 := Lib.hid (F2.out.next hb); clear hb F2 HTX c0_0 c0_1 c0_2 c0_3 c0_4 c0_5 c0_6 c0_7 c0_8 c0_9 c0_10; have c0_0 := F3.out.c 0 0 rfl rfl; have c0_1 := F3.out.c 0 1 rfl rfl; have c0_2 := F3.out.c 0 2 rfl rfl; have c0_3 := F3.out.c 0 3 rfl rfl; have c0_4 := F3.out.c 0 4 rfl rfl; have c0_5 := F3.out.c 0 5 rfl rfl; have c0_6 := F3.out.c 0 6 rfl rfl; have c0_7 := F3.out.c 0 7 rfl rfl; have c0_8 := F3.out.c 0 8 rfl rfl; have c0_9 := F3.out.c 0 9 rfl rfl; have c0_10 := F3.out.c 0 10 rfl rfl) | fail)
          go_roundw
          case rel => exact ⟨k + 1, by omega, by go_num, HB.out.trans (F3.out.bel.mono HB.out.size)⟩
          case measure => simp [intOf]; omega
        | true =>
          rw [htb] at htx
          have HTX := Lib.hid htx
          have HTB := Lib.hid htb
          clear htx htb
          by_cases hx3 : xs.length < 3
          · skip
            have hx3i : (xs.length : Int) < 3 := by omega
            go_wp2_with (first | (go_at_call 8; refine (HTX.out _ (F2.out.lw 0 rfl) (F2.out.lw 1 rfl)).mono ?_; rintro e w3 ⟨rfl, hb⟩; have F3 := Lib.hid (F2.out.next hb); clear hb F2 HTX c0_0 c0_1 c0_2 c0_3 c0_4 c0_5 c0_6 c0_7 c0_8 c0_9 c0_10; have c0_0 := F3.out.c 0 0 rfl rfl; have c0_1 := F3.out.c 0 1 rfl rfl; have c0_2 := F3.out.c 0 2 rfl rfl; have c0_3 := F3.out.c 0 3 rfl rfl; have c0_4 := F3.out.c 0 4 rfl rfl; have c0_5 := F3.out.c 0 5 rfl rfl; have c0_6 := F3.out.c 0 6 rfl rfl; have c0_7 := F3.out.c 0 7 rfl rfl; have c0_8 := F3.out.c 0 8 rfl rfl; have c0_9 := F3.out.c 0 9 rfl rfl; have c0_10 := F3.out.c 0 10 rfl rfl) | fail)
            go_roundw
            case rel => exact ⟨k + 1, by omega, by go_num, HB.out.trans (F3.out.bel.mono HB.out.size)⟩
            case measure => simp [intOf]; omega
          have hx3i : ¬ (xs.length : Int) < 3 := by omega
          have HX3 := Lib.hid (show 3 ≤ xs.length by omega)
          have hx1i : (1 : Int) < (xs.length : Int) := by omega
          obtain ⟨gX, oX, rfl, _, _⟩ := (F2.out.l 0 rfl).cell 0 (by omega)
          have hd1 := goodB_dims (tenB_iff.1 HTB.out).1 _ (getD_mem (l := xs) (i := 1) (by omega))
          obtain ⟨n1, hn1⟩ : ∃ z : Nat, xs[1]?.getD 0 = (z : Int) := ⟨(xs[1]?.getD 0).toNat, by omega⟩
          rw [hn1] at hd1
          have HN1 := Lib.hid hn1
          clear hn1 hx3
          by_cases hx10 : n1 > 10
          · skip
            have hx10i : (10 : Int) < (n1 : Int) := by omega
            go_wp2_with (first | (go_at_call 8; refine (HTX.out _ (F2.out.lw 0 rfl) (F2.out.lw 1 rfl)).mono ?_; rintro e w3 ⟨rfl, hb⟩; have F3 := Lib.hid (F2.out.next hb); clear hb F2 HTX c0_0 c0_1 c0_2 c0_3 c0_4 c0_5 c0_6 c0_7 c0_8 c0_9 c0_10; have c0_0 := F3.out.c 0 0 rfl rfl; have c0_1 := F3.out.c 0 1 rfl rfl; have c0_2 := F3.out.c 0 2 rfl rfl; have c0_3 := F3.out.c 0 3 rfl rfl; have c0_4 := F3.out.c 0 4 rfl rfl; have c0_5 := F3.out.c 0 5 rfl rfl; have c0_6 := F3.out.c 0 6 rfl rfl; have c0_7 := F3.out.c 0 7 rfl rfl; have c0_8 := F3.out.c 0 8 rfl rfl; have c0_9 := F3.out.c 0 9 rfl rfl; have c0_10 := F3.out.c 0 10 rfl rfl; obtain ⟨b9, o9, he, _, hcx⟩ := (F3.out.l 0 rfl).cell 1 (by have := HX3.out; omega); cases he; rw [HN1.out] at hcx) | fail)
            go_roundw
            case rel => exact ⟨k + 1, by omega, by go_num, HB.out.trans (F3.out.bel.mono HB.out.size)⟩
            case measure => simp [intOf]; omega
          have hx10i : ¬ (10 : Int) < (n1 : Int) := by omega
          have HN10 := Lib.hid (show 1 ≤ n1 ∧ n1 ≤ 10 by omega)
          go_upto_region 8 with (first | (go_at_call 8; refine (HTX.out _ (F2.out.lw 0 rfl) (F2.out.lw 1 rfl)).mono ?_; rintro e w3 ⟨rfl, hb⟩; have F3 := Lib.hid (F2.out.next hb); clear hb F2 HTX c0_0 c0_1 c0_2 c0_3 c0_4 c0_5 c0_6 c0_7 c0_8 c0_9 c0_10; have c0_0 := F3.out.c 0 0 rfl rfl; have c0_1 := F3.out.c 0 1 rfl rfl; have c0_2 := F3.out.c 0 2 rfl rfl; have c0_3 := F3.out.c 0 3 rfl rfl; have c0_4 := F3.out.c 0 4 rfl rfl; have c0_5 := F3.out.c 0 5 rfl rfl; have c0_6 := F3.out.c 0 6 rfl rfl; have c0_7 := F3.out.c 0 7 rfl rfl; have c0_8 := F3.out.c 0 8 rfl rfl; have c0_9 := F3.out.c 0 9 rfl rfl; have c0_10 := F3.out.c 0 10 rfl rfl; obtain ⟨b9, o9, he, _, hcx⟩ := (F3.out.l 0 rfl).cell 1 (by have := HX3.out; omega); cases he; rw [HN1.out] at hcx) | fail)
          clear hx10 hx10i hx3i hd1
          obtain ⟨fb, hfb⟩ : ∃ z : Int, 8 + withinN f 25 = z := ⟨_, rfl⟩
          have hwb := withinN_bound f 25 (by decide)
          have HFB := Lib.hid (show 8 ≤ fb ∧ fb ≤ 32 by rw [← hfb]; omega)
          have hfa := fun W => f_any f W HF9.out
          rw [hfb] at hfa
          obtain ⟨fn, hfn⟩ : ∃ n : Nat, fb = (n : Int) := ⟨fb.toNat, by omega⟩
          subst hfn
          have HFB2 := Lib.hid (show 8 ≤ fn ∧ fn ≤ 32 by have := HFB.out; omega)
          clear hwb
          go_upto_region 9 with (first | (go_at_call 9; refine (hfa _).mono ?_; rintro e w5 ⟨rfl, rfl⟩; skip) | fail)
          clear hfa hfb
          go_upto_region 10 with fail
          clear hcx hx1i
          go_upto_region 11 with fail
          obtain ⟨Y7, hY7⟩ : ∃ x, w3.heap.size = x := ⟨_, rfl⟩
          rw [hY7]
          have F4 := Lib.hid (F3.out.box1 (b := Y7) hY7 [.slice none 0 0, .slice none 0 0, .slice none 0 0, .slice none 0 0] 28)
          simp only [List.nil_append, List.cons_append] at F4
          obtain ⟨W4, hW4⟩ : ∃ x, (w3.alloc (.cells #[.slice none 0 0, .slice none 0 0, .slice none 0 0, .slice none 0 0] 28)) = x := ⟨_, rfl⟩
          rw [hW4] at F4 ⊢
          clear hW4 hY7 F3
          go_upto_region 12 with fail
          obtain ⟨g8, hg8⟩ : ∃ x, W4.heap.size = x := ⟨_, rfl⟩
          rw [hg8]
          have F5 := F4.out.addO ((Below.refl _ _).alloc (Nat.le_refl _) (.cells #[.int .i64 (n1 : Int), .int .i64 (n1 : Int)] 3)) (World.ownsRow_lit (base := W4.heap.size) (size := 1) (e := 3) W4 #[.int .i64 (n1 : Int), .int .i64 (n1 : Int)] 2 (Nat.le_refl _) (by decide) rfl)
          rw [hg8] at F5
          have F6 := Lib.hid (((F5.addNil 3).addNil 3).addNil 3)
          simp only [List.cons_append, List.nil_append] at F6
          obtain ⟨W6, hW6⟩ : ∃ x, W4.alloc (.cells #[.int .i64 (n1 : Int), .int .i64 (n1 : Int)] 3) = x := ⟨_, rfl⟩
          rw [hW6] at F6 ⊢
          clear hW6 hg8 F5 F4
          obtain ⟨NW, hNW⟩ : ∃ m : Nat, xs.length = 2 + m := ⟨xs.length - 2, by have := HX3.out; omega⟩
          have HNW := Lib.hid hNW
          have HNB := Lib.hid (show NW ≤ 2 by have := (goodB_iff.1 (tenB_iff.1 HTB.out).1).1; omega)
          clear hNW
          go_wp2
          go_loopw [8, 9] (fun s8 s9 wr => ∃ (j L8 : Nat) (e8 e1 e2 e3 : Option Addr) (c8 g1 g2 g3 : Nat), j ≤ NW ∧ Hid (L8 = 2 + j) ∧ s8 = .slice e8 L8 c8 ∧ s9 = .int .i64 ((2 + j : Nat) : Int) ∧ Hid (Fr wo.heap.size wo wr [(wo.heap.size, [.slice (some ⟨gX, oX, none⟩) xs.length c, .slice b ys.length d, .slice a2 ws.length c2, .slice b2 vs.length dw, .slice aQ Q.length cQ, .slice aS wv.S.length cS, .slice aP wv.P.length cP, .slice aD wv.D.length cD, .slice aI I.length cI, .slice aJ J.length cJ, .int .i64 f]), (Y7, [.slice none 0 0, .slice e1 j g1, .slice e2 j g2, .slice e3 j g3])] [(.i64, (some ⟨gX, oX, none⟩), xs), (.i64, b, ys), (.i64, a2, ws), (.i64, b2, vs), (.i64, aQ, Q), (.i64, aS, wv.S), (.i64, aP, wv.P), (.i64, aD, wv.D), (.i64, aI, I), (.i64, aJ, J)] [⟨3, .slice e8 L8 c8, L8, ((n1 : Int) :: (n1 : Int) :: List.replicate j (1 : Int)).map (Value.int .i64)⟩, ⟨3, .slice e1 j g1, j, (List.replicate j (1 : Int)).map (Value.int .i64)⟩, ⟨3, .slice e2 j g2, j, (List.replicate j (0 : Int)).map (Value.int .i64)⟩, ⟨3, .slice e3 j g3, j, (List.replicate j (1 : Int)).map (Value.int .i64)⟩] [])) (fun _ s9 _ => 2 + NW - (intOf s9).toNat)
          case atStart => exact ⟨0, 2, some ⟨g8, 0, none⟩, none, none, none, 2, 0, 0, 0, Nat.zero_le _, Lib.hid rfl, rfl, rfl, F6⟩
          case round =>
            obtain ⟨j, L8, e8, e1, e2, e3, c8, g1, g2, g3, hj, HL8, rfl, rfl, F7⟩ := hrel
            clear F6
            obtain ⟨wi, rfl⟩ : ∃ x : World, x = wr := ⟨_, rfl⟩
            have hjb : j ≤ 1000000 := by have := HNB.out; omega
            by_cases hlj : j < NW
            · skip
              have hji : ((2 + j : Nat) : Int) < (xs.length : Int) := by have := HNW.out; omega
              have q9 := F7.out.c 0 0 rfl rfl
              have q0 := F7.out.c 1 1 rfl rfl
              have q1 := F7.out.f 1 1 rfl rfl
              have hra : (List.replicate j (1 : Int)) ++ [1] = List.replicate (j + 1) 1 := List.replicate_succ'.symm
              have HRA := Lib.hid hra
              clear hra
              go_upto_region 16 with (first | (at_builtin; refine appendI wo.heap.size (.slice e1 j g1) j (List.replicate j 1) 1 _ _ _ rfl rfl rfl (F7.out.r 1 rfl) rfl hjb F7.out.hlo ?_; intro v' v0w hown hbel hgr hob; rw [HRA.out] at hown; obtain ⟨rb0, rc0, rfl, _⟩ := own_shape hown; have K0 := Lib.hid (F7.out.wroteO 1 rfl hgr hown (fun g hg => by rcases hob with h | h; exact .inl (h.symm.trans hg); exact .inr (by rw [h] at hg; injection hg with hg; omega))); simp only [List.set_cons_zero, List.set_cons_succ] at K0; clear hown hbel hgr hob F7 q0 q1 q9; have q0 := K0.out.c 1 1 rfl rfl; have q1 := K0.out.f 1 1 rfl rfl) | fail)
              have L0 := Lib.hid (K0.out.setC 1 1 rfl (by simp) (.slice rb0 (j + 1) rc0))
              simp only [List.set_cons_zero, List.set_cons_succ] at L0
              obtain ⟨V0, hV0⟩ : ∃ x, v0w.setCell ⟨Y7, 1, none⟩ (.slice rb0 (j + 1) rc0) = x := ⟨_, rfl⟩
              rw [hV0] at L0 ⊢
              clear hV0 K0 q0 q1 HRA
              have q0 := L0.out.c 1 2 rfl rfl
              have q1 := L0.out.f 1 2 rfl rfl
              have hra : (List.replicate j (0 : Int)) ++ [0] = List.replicate (j + 1) 0 := List.replicate_succ'.symm
              have HRA := Lib.hid hra
              clear hra
              go_upto_region 17 with (first | (at_builtin; refine appendI wo.heap.size (.slice e2 j g2) j (List.replicate j 0) 0 _ _ _ rfl rfl rfl (L0.out.r 2 rfl) rfl hjb L0.out.hlo ?_; intro v' v1w hown hbel hgr hob; rw [HRA.out] at hown; obtain ⟨rb1, rc1, rfl, _⟩ := own_shape hown; have K1 := Lib.hid (L0.out.wroteO 2 rfl hgr hown (fun g hg => by rcases hob with h | h; exact .inl (h.symm.trans hg); exact .inr (by rw [h] at hg; injection hg with hg; omega))); simp only [List.set_cons_zero, List.set_cons_succ] at K1; clear hown hbel hgr hob L0 q0 q1; have q0 := K1.out.c 1 2 rfl rfl; have q1 := K1.out.f 1 2 rfl rfl) | fail)
              have L1 := Lib.hid (K1.out.setC 1 2 rfl (by simp) (.slice rb1 (j + 1) rc1))
              simp only [List.set_cons_zero, List.set_cons_succ] at L1
              obtain ⟨V1, hV1⟩ : ∃ x, v1w.setCell ⟨Y7, 2, none⟩ (.slice rb1 (j + 1) rc1) = x := ⟨_, rfl⟩
              rw [hV1] at L1 ⊢
              clear hV1 K1 q0 q1 HRA
              have q0 := L1.out.c 1 3 rfl rfl
              have q1 := L1.out.f 1 3 rfl rfl
              have hra : (List.replicate j (1 : Int)) ++ [1] = List.replicate (j + 1) 1 := List.replicate_succ'.symm
              have HRA := Lib.hid hra
              clear hra
              go_upto_region 18 with (first | (at_builtin; refine appendI wo.heap.size (.slice e3 j g3) j (List.replicate j 1) 1 _ _ _ rfl rfl rfl (L1.out.r 3 rfl) rfl hjb L1.out.hlo ?_; intro v' v2w hown hbel hgr hob; rw [HRA.out] at hown; obtain ⟨rb2, rc2, rfl, _⟩ := own_shape hown; have K2 := Lib.hid (L1.out.wroteO 3 rfl hgr hown (fun g hg => by rcases hob with h | h; exact .inl (h.symm.trans hg); exact .inr (by rw [h] at hg; injection hg with hg; omega))); simp only [List.set_cons_zero, List.set_cons_succ] at K2; clear hown hbel hgr hob L1 q0 q1; have q0 := K2.out.c 1 3 rfl rfl; have q1 := K2.out.f 1 3 rfl rfl) | fail)
              have L2 := Lib.hid (K2.out.setC 1 3 rfl (by simp) (.slice rb2 (j + 1) rc2))
              simp only [List.set_cons_zero, List.set_cons_succ] at L2
              obtain ⟨V2, hV2⟩ : ∃ x, v2w.setCell ⟨Y7, 3, none⟩ (.slice rb2 (j + 1) rc2) = x := ⟨_, rfl⟩
              rw [hV2] at L2 ⊢
              clear hV2 K2 q0 q1 HRA
              have hra : ((n1 : Int) :: (n1 : Int) :: List.replicate j (1 : Int)) ++ [1] = (n1 : Int) :: (n1 : Int) :: List.replicate (j + 1) 1 := by rw [List.cons_append, List.cons_append, List.replicate_succ']
              have HRA := Lib.hid hra
              clear hra
              go_wp2_with (at_builtin; refine appendI wo.heap.size (.slice e8 L8 c8) L8 ((n1 : Int) :: (n1 : Int) :: List.replicate j 1) 1 _ _ _ rfl rfl rfl (L2.out.r 0 rfl) rfl (by have h1 := HL8.out; have h2 := HNB.out; omega) L2.out.hlo ?_; intro v' v3w hown hbel hgr hob; rw [HRA.out] at hown; obtain ⟨rb3, rc3, rfl, _⟩ := own_shape hown; have K3 := Lib.hid (L2.out.wroteO 0 rfl hgr hown (fun g hg => by rcases hob with h | h; exact .inl (h.symm.trans hg); exact .inr (by rw [h] at hg; injection hg with hg; omega))); simp only [List.set_cons_zero, List.set_cons_succ] at K3; clear hown hbel hgr hob L2)
              have h8 := HNB.out
              go_roundw
              case rel => exact ⟨j + 1, L8 + 1, _, rb0, rb1, rb2, rc3, rc0, rc1, rc2, by omega, Lib.hid (by have := HL8.out; omega), rfl, congrArg (Value.int .i64) (by omega), K3⟩
              case measure => simp only [intOf]; omega
            · obtain rfl : j = NW := by omega
              have hji : ¬ ((2 + j : Nat) : Int) < (xs.length : Int) := by have := HNW.out; omega
              have q9 := F7.out.c 0 0 rfl rfl
              go_upto_region 19 with fail
              obtain ⟨a9_, c9_, he, hsh⟩ := own_shape (F7.out.r 0 rfl)
              simp only [Value.slice.injEq] at he
              obtain ⟨rfl, _, rfl⟩ := he
              obtain ⟨g8, rfl, _⟩ := hsh.resolve_left (show ¬ L8 = 0 by have := HL8.out; omega)
              clear hsh
              have hrc8 := row_cap (F7.out.r 0 rfl)
              have HC8 := Lib.hid hrc8
              clear hrc8
              obtain ⟨NQ, hNQ⟩ : ∃ m : Nat, n1 * n1 = m := ⟨_, rfl⟩
              have hnq := Nat.mul_le_mul HN10.out.2 HN10.out.2
              rw [hNQ] at hnq
              have HNQ := Lib.hid hNQ
              have HNQB := Lib.hid (show NQ ≤ 100 from hnq)
              have m1 : RowKit.wrap64 ((n1 : Int) * (n1 : Int)) = (NQ : Int) := by rw [← Int.natCast_mul, hNQ]; exact IntWalk.wrap64_in _ (by omega)
              clear hNQ q9
              go_upto_region 20 with (at_make; (refine wpl_makeO 24 2 (.int .i64 0) 8 (by omega) rfl infoI64 Try.underlying24 wi.heap.size NQ _ _ _ _ rfl rfl rfl rfl m1 m1 (Nat.le_trans HNQB.out (by decide)) (Nat.le_refl _) ?_); intro w8 hown hgrow hsz4; have F8 := Lib.hid (F7.out.addO (hgrow _ (Nat.le_refl _)) hown); clear hown hgrow F7 hsz4)
              obtain ⟨gd, hgd⟩ : ∃ x, wi.heap.size = x := ⟨_, rfl⟩
              simp only [hgd, List.nil_append, List.cons_append] at F8
              (try simp only [hgd])
              clear hgd m1 hnq
              obtain ⟨T9, hT9⟩ : ∃ x, w8.heap.size = x := ⟨_, rfl⟩
              rw [hT9]
              have F9 := Lib.hid (F8.out.box1 (b := T9) hT9 [.slice (some ⟨g8, 0, none⟩) L8 c8, .slice (some ⟨gd, 0, none⟩) NQ NQ] 26)
              simp only [List.nil_append, List.cons_append] at F9
              obtain ⟨W9, hW9⟩ : ∃ x, (w8.alloc (.cells #[.slice (some ⟨g8, 0, none⟩) L8 c8, .slice (some ⟨gd, 0, none⟩) NQ NQ] 26)) = x := ⟨_, rfl⟩
              rw [hW9] at F9 ⊢
              clear hW9 hT9 F8
              have F10 : Hid (Fr wo.heap.size wo W9 [(wo.heap.size, [.slice (some ⟨gX, oX, none⟩) xs.length c, .slice b ys.length d, .slice a2 ws.length c2, .slice b2 vs.length dw, .slice aQ Q.length cQ, .slice aS wv.S.length cS, .slice aP wv.P.length cP, .slice aD wv.D.length cD, .slice aI I.length cI, .slice aJ J.length cJ, .int .i64 f]), (Y7, [.slice none 0 0, .slice e1 j g1, .slice e2 j g2, .slice e3 j g3]), (T9, [.slice (some ⟨g8, 0, none⟩) L8 c8, .slice (some ⟨gd, 0, none⟩) NQ NQ])] [(.i64, (some ⟨gX, oX, none⟩), xs), (.i64, b, ys), (.i64, a2, ws), (.i64, b2, vs), (.i64, aQ, Q), (.i64, aS, wv.S), (.i64, aP, wv.P), (.i64, aD, wv.D), (.i64, aI, I), (.i64, aJ, J)] [⟨3, .slice (some ⟨g8, 0, none⟩) L8 c8, L8, ((n1 : Int) :: (n1 : Int) :: List.replicate j (1 : Int)).map (Value.int .i64)⟩, ⟨3, .slice e1 j g1, j, (List.replicate j (1 : Int)).map (Value.int .i64)⟩, ⟨3, .slice e2 j g2, j, (List.replicate j (0 : Int)).map (Value.int .i64)⟩, ⟨3, .slice e3 j g3, j, (List.replicate j (1 : Int)).map (Value.int .i64)⟩, ⟨2, .slice (some ⟨gd, 0, none⟩) NQ NQ, NQ, (fillD n1 fn 0).map (Value.int .i64)⟩] []) := Lib.hid (by have h9 := F9.out; rw [show List.replicate NQ (Value.int .i64 0) = (fillD n1 fn 0).map (Value.int .i64) by rw [fillD_zero, HNQ.out, List.map_replicate]] at h9; exact h9)
              clear F9
              go_wp2
              go_loopw [11] (fun s11 wr => ∃ r : Nat, r ≤ n1 ∧ s11 = .int .i64 r ∧ Hid (Fr wo.heap.size wo wr [(wo.heap.size, [.slice (some ⟨gX, oX, none⟩) xs.length c, .slice b ys.length d, .slice a2 ws.length c2, .slice b2 vs.length dw, .slice aQ Q.length cQ, .slice aS wv.S.length cS, .slice aP wv.P.length cP, .slice aD wv.D.length cD, .slice aI I.length cI, .slice aJ J.length cJ, .int .i64 f]), (Y7, [.slice none 0 0, .slice e1 j g1, .slice e2 j g2, .slice e3 j g3]), (T9, [.slice (some ⟨g8, 0, none⟩) L8 c8, .slice (some ⟨gd, 0, none⟩) NQ NQ])] [(.i64, (some ⟨gX, oX, none⟩), xs), (.i64, b, ys), (.i64, a2, ws), (.i64, b2, vs), (.i64, aQ, Q), (.i64, aS, wv.S), (.i64, aP, wv.P), (.i64, aD, wv.D), (.i64, aI, I), (.i64, aJ, J)] [⟨3, .slice (some ⟨g8, 0, none⟩) L8 c8, L8, ((n1 : Int) :: (n1 : Int) :: List.replicate j (1 : Int)).map (Value.int .i64)⟩, ⟨3, .slice e1 j g1, j, (List.replicate j (1 : Int)).map (Value.int .i64)⟩, ⟨3, .slice e2 j g2, j, (List.replicate j (0 : Int)).map (Value.int .i64)⟩, ⟨3, .slice e3 j g3, j, (List.replicate j (1 : Int)).map (Value.int .i64)⟩, ⟨2, .slice (some ⟨gd, 0, none⟩) NQ NQ, NQ, (fillD n1 fn r).map (Value.int .i64)⟩] [])) (fun s11 _ => n1 - (intOf s11).toNat)
              case atStart => exact ⟨0, Nat.zero_le _, rfl, F10⟩
              case round =>
                obtain ⟨r, hr, rfl, F11⟩ := hrel
                clear F10
                obtain ⟨wj, rfl⟩ : ∃ x : World, x = wr := ⟨_, rfl⟩
                by_cases hlr : r < n1
                · skip
                  have hri : (r : Int) < (n1 : Int) := by omega
                  go_upto_region 23 with fail
                  clear hri
                  obtain ⟨s9, hs9⟩ : ∃ z : Nat, r * n1 = z := ⟨_, rfl⟩
                  obtain ⟨z9, hz9⟩ : ∃ z : Nat, s9 + r = z := ⟨_, rfl⟩
                  have hlz : z9 < NQ := by have h9 := Nat.mul_le_mul_right n1 (show r + 1 ≤ n1 from hlr); rw [Nat.succ_mul, hs9, HNQ.out] at h9; omega
                  obtain ⟨PW, hPW⟩ : ∃ z : Int, (2 : Int) ^ fn = z := ⟨_, rfl⟩
                  have hpw := pow_word fn HFB2.out.2
                  rw [hPW] at hpw
                  have HPB := Lib.hid hpw
                  obtain ⟨FM, hFM⟩ : ∃ l, fillD n1 fn r = l := ⟨_, rfl⟩
                  rw [hFM] at F11
                  have HFL := Lib.hid (show FM.length = NQ by rw [← hFM, fillD_len, HNQ.out])
                  have HST := Lib.hid (show FM.set z9 PW = fillD n1 fn (r + 1) by rw [← hFM, ← hz9, ← hs9, ← hPW]; exact fillD_set hlr)
                  have HLZ := Lib.hid hlz
                  have HS9 := Lib.hid hs9
                  have HZ9 := Lib.hid hz9
                  have HPW := Lib.hid hPW
                  have HLR := Lib.hid hlr
                  clear hs9 hz9 hlz hpw hPW hFM hlr
                  refine wp_region_parts2 (w := wj) 10 1 none [] [(fun u _ => u = .pointer (some ⟨T9, 1, none⟩)), (fun u _ => u = .slice (some ⟨gd, 0, none⟩) NQ NQ), (fun u _ => u = .int .i64 (r : Int)), (fun u _ => u = .int .i64 (n1 : Int)), (fun u _ => u = .int .i64 (s9 : Int)), (fun u _ => u = .int .i64 (r : Int)), (fun u _ => u = .int .i64 (z9 : Int)), (fun u _ => u = .int .i64 (fn : Int)), (fun u _ => u = .int .i64 PW), (fun u _ => u = .pointer (some ⟨gd, z9, none⟩))] [some 102, some 103, some 104, some 105, some 106, some 107, some 108, some 109, some 110, some 111, none] #[true, true, true, true, true, true, true, true, true, true, false] #[true, true, true, true, true, true, true, true, true, true, false] (by kernel_rfl) rfl (by kernel_rfl) (by kernel_rfl) rfl (by kernel_rfl) (by kernel_rfl) (.cons (carries_eq _) (.cons (carries_eq _) (.cons (carries_eq _) (.cons (carries_eq _) (.cons (carries_eq _) (.cons (carries_eq _) (.cons (carries_eq _) (.cons (carries_eq _) (.cons (carries_eq _) (.cons (carries_eq _) .nil)))))))))) (fun vs b hvl hvb => ?_)
                  obtain ⟨x0, x1, x2, x3, x4, x5, x6, x7, x8, x9, x10, rfl⟩ : ∃ x0 x1 x2 x3 x4 x5 x6 x7 x8 x9 x10, vs = [x0, x1, x2, x3, x4, x5, x6, x7, x8, x9, x10] := lw11 hvl
                  clear hvl
                  simp only [putAll, Act.put, List.setIfInBounds_toArray, List.set_cons_zero, List.set_cons_succ] at hvb
                  subst hvb
                  refine ⟨(.snoc (.snoc (.snoc (.snoc (.snoc (.snoc (.snoc (.snoc (.snoc (.snoc .zero (PartOb.intro (d := (some 102)) (r := fun u _ => u = .pointer (some ⟨T9, 1, none⟩)) rfl rfl rfl rfl ?po23x0)) (PartOb.intro (d := (some 103)) (r := fun u _ => u = .slice (some ⟨gd, 0, none⟩) NQ NQ) rfl rfl rfl rfl ?po23x1)) (PartOb.intro (d := (some 104)) (r := fun u _ => u = .int .i64 (r : Int)) rfl rfl rfl rfl ?po23x2)) (PartOb.intro (d := (some 105)) (r := fun u _ => u = .int .i64 (n1 : Int)) rfl rfl rfl rfl ?po23x3)) (PartOb.intro (d := (some 106)) (r := fun u _ => u = .int .i64 (s9 : Int)) rfl rfl rfl rfl ?po23x4)) (PartOb.intro (d := (some 107)) (r := fun u _ => u = .int .i64 (r : Int)) rfl rfl rfl rfl ?po23x5)) (PartOb.intro (d := (some 108)) (r := fun u _ => u = .int .i64 (z9 : Int)) rfl rfl rfl rfl ?po23x6)) (PartOb.intro (d := (some 109)) (r := fun u _ => u = .int .i64 (fn : Int)) rfl rfl rfl rfl ?po23x7)) (PartOb.intro (d := (some 110)) (r := fun u _ => u = .int .i64 PW) rfl rfl rfl rfl ?po23x8)) (PartOb.intro (d := (some 111)) (r := fun u _ => u = .pointer (some ⟨gd, z9, none⟩)) rfl rfl rfl rfl ?po23x9)), ?pend23, ?pfl23⟩
                  case po23x0 =>
                    intro w1 hb1 hd KK hK
                    clear hd
                    simp only [Act.put, List.setIfInBounds_toArray, List.set_cons_zero, List.set_cons_succ] at hK
                    go_simp
                    first | exact hK.out _ _ (Below.refl _ _) rfl | (have hk := hK.out _ _ (Below.refl _ _) rfl; revert hk; go_simp)
                  case po23x1 =>
                    intro w1 hb1 hd KK hK
                    have d0 : x0 = .pointer (some ⟨T9, 1, none⟩) := hd 0 (by kernel_rfl)
                    clear hd
                    subst d0
                    have hF := F11.out.next hb1
                    have k1 := hF.c 2 1 rfl rfl
                    simp only [Act.put, List.setIfInBounds_toArray, List.set_cons_zero, List.set_cons_succ] at hK
                    go_simp
                    first | exact hK.out _ _ (Below.refl _ _) rfl | (have hk := hK.out _ _ (Below.refl _ _) rfl; revert hk; go_simp)
                  case po23x2 =>
                    intro w1 hb1 hd KK hK
                    clear hd
                    simp only [Act.put, List.setIfInBounds_toArray, List.set_cons_zero, List.set_cons_succ] at hK
                    go_simp
                    first | exact hK.out _ _ (Below.refl _ _) rfl | (have hk := hK.out _ _ (Below.refl _ _) rfl; revert hk; go_simp)
                  case po23x3 =>
                    intro w1 hb1 hd KK hK
                    clear hd
                    simp only [Act.put, List.setIfInBounds_toArray, List.set_cons_zero, List.set_cons_succ] at hK
                    go_simp
                    first | exact hK.out _ _ (Below.refl _ _) rfl | (have hk := hK.out _ _ (Below.refl _ _) rfl; revert hk; go_simp)
                  case po23x4 =>
                    intro w1 hb1 hd KK hK
                    have d2 : x2 = .int .i64 (r : Int) := hd 2 (by kernel_rfl)
                    have d3 : x3 = .int .i64 (n1 : Int) := hd 3 (by kernel_rfl)
                    clear hd
                    subst d2
                    subst d3
                    have g2 : ∀ [Inhabited Unit], IntKind.i64.wrap ((r : Int) * (n1 : Int)) = (s9 : Int) := by intro _; rw [← Int.natCast_mul, HS9.out]; exact IntWalk.i64_in _ (by have h1 := HLZ.out; have h2 := HNQB.out; have h3 := HZ9.out; omega)
                    simp only [Act.put, List.setIfInBounds_toArray, List.set_cons_zero, List.set_cons_succ] at hK
                    go_simp
                    first | exact hK.out _ _ (Below.refl _ _) rfl | (have hk := hK.out _ _ (Below.refl _ _) rfl; revert hk; go_simp)
                  case po23x5 =>
                    intro w1 hb1 hd KK hK
                    clear hd
                    simp only [Act.put, List.setIfInBounds_toArray, List.set_cons_zero, List.set_cons_succ] at hK
                    go_simp
                    first | exact hK.out _ _ (Below.refl _ _) rfl | (have hk := hK.out _ _ (Below.refl _ _) rfl; revert hk; go_simp)
                  case po23x6 =>
                    intro w1 hb1 hd KK hK
                    have d4 : x4 = .int .i64 (s9 : Int) := hd 4 (by kernel_rfl)
                    have d5 : x5 = .int .i64 (r : Int) := hd 5 (by kernel_rfl)
                    clear hd
                    subst d4
                    subst d5
                    have g2 : ∀ [Inhabited Unit], IntKind.i64.wrap ((s9 : Int) + (r : Int)) = (z9 : Int) := by intro _; rw [← Int.natCast_add, HZ9.out]; exact IntWalk.i64_in _ (by have h1 := HLZ.out; have h2 := HNQB.out; have h3 := HZ9.out; omega)
                    simp only [Act.put, List.setIfInBounds_toArray, List.set_cons_zero, List.set_cons_succ] at hK
                    go_simp
                    first | exact hK.out _ _ (Below.refl _ _) rfl | (have hk := hK.out _ _ (Below.refl _ _) rfl; revert hk; go_simp)
                  case po23x7 =>
                    intro w1 hb1 hd KK hK
                    clear hd
                    simp only [Act.put, List.setIfInBounds_toArray, List.set_cons_zero, List.set_cons_succ] at hK
                    go_simp
                    first | exact hK.out _ _ (Below.refl _ _) rfl | (have hk := hK.out _ _ (Below.refl _ _) rfl; revert hk; go_simp)
                  case po23x8 =>
                    intro w1 hb1 hd KK hK
                    have d7 : x7 = .int .i64 (fn : Int) := hd 7 (by kernel_rfl)
                    clear hd
                    subst d7
                    have g1 := HFB2.out
                    have g3 : (0 : Int) ≤ (fn : Int) := by omega
                    have g4 : (fn : Int) ≤ 64 := by omega
                    have g2 : ∀ [Inhabited Unit], IntKind.i64.wrap ((2 : Int) ^ fn) = PW := by intro _; rw [HPW.out]; exact IntWalk.i64_in _ (by have := HPB.out; omega)
                    clear g1
                    simp only [Act.put, List.setIfInBounds_toArray, List.set_cons_zero, List.set_cons_succ] at hK
                    go_simp
                    first | exact hK.out _ _ (Below.refl _ _) rfl | (have hk := hK.out _ _ (Below.refl _ _) rfl; revert hk; go_simp)
                  case po23x9 =>
                    intro w1 hb1 hd KK hK
                    have d0 : x0 = .pointer (some ⟨T9, 1, none⟩) := hd 0 (by kernel_rfl)
                    have d1 : x1 = .slice (some ⟨gd, 0, none⟩) NQ NQ := hd 1 (by kernel_rfl)
                    have d2 : x2 = .int .i64 (r : Int) := hd 2 (by kernel_rfl)
                    have d3 : x3 = .int .i64 (n1 : Int) := hd 3 (by kernel_rfl)
                    have d4 : x4 = .int .i64 (s9 : Int) := hd 4 (by kernel_rfl)
                    have d5 : x5 = .int .i64 (r : Int) := hd 5 (by kernel_rfl)
                    have d6 : x6 = .int .i64 (z9 : Int) := hd 6 (by kernel_rfl)
                    have d7 : x7 = .int .i64 (fn : Int) := hd 7 (by kernel_rfl)
                    have d8 : x8 = .int .i64 PW := hd 8 (by kernel_rfl)
                    clear hd
                    subst d0
                    subst d1
                    subst d2
                    subst d3
                    subst d4
                    subst d5
                    subst d6
                    subst d7
                    subst d8
                    have g1 := HLZ.out
                    have g2 : (z9 : Int) < (NQ : Int) := by omega
                    clear g1
                    simp only [Act.put, List.setIfInBounds_toArray, List.set_cons_zero, List.set_cons_succ] at hK
                    go_simp
                    first | exact hK.out _ _ (Below.refl _ _) rfl | (have hk := hK.out _ _ (Below.refl _ _) rfl; revert hk; go_simp)
                  case pfl23 => (intro f hf; cases hf)
                  case pend23 =>
                  intro w1 hb1 hR hD
                  have d0 : x0 = .pointer (some ⟨T9, 1, none⟩) := hR 0 (by decide)
                  have d1 : x1 = .slice (some ⟨gd, 0, none⟩) NQ NQ := hR 1 (by decide)
                  have d2 : x2 = .int .i64 (r : Int) := hR 2 (by decide)
                  have d3 : x3 = .int .i64 (n1 : Int) := hR 3 (by decide)
                  have d4 : x4 = .int .i64 (s9 : Int) := hR 4 (by decide)
                  have d5 : x5 = .int .i64 (r : Int) := hR 5 (by decide)
                  have d6 : x6 = .int .i64 (z9 : Int) := hR 6 (by decide)
                  have d7 : x7 = .int .i64 (fn : Int) := hR 7 (by decide)
                  have d8 : x8 = .int .i64 PW := hR 8 (by decide)
                  have d9 : x9 = .pointer (some ⟨gd, z9, none⟩) := hR 9 (by decide)
                  clear hR hD
                  subst d0
                  subst d1
                  subst d2
                  subst d3
                  subst d4
                  subst d5
                  subst d6
                  subst d7
                  subst d8
                  subst d9
                  refine wpAny_ready (rs := [10]) (by kernel_rfl) (by simp) (AllReady.cons rfl (fun KK hK => ?_) AllReady.nil)
                  have G2 := F11.out.next hb1
                  have hgc : (FM.map (Value.int .i64))[z9]? = some (.int .i64 (FM[z9]'(by rw [HFL.out]; exact HLZ.out))) := by rw [List.getElem?_map, List.getElem?_eq_getElem (by rw [HFL.out]; exact HLZ.out)]; rfl
                  obtain ⟨k0, kf⟩ := G2.rc 4 z9 rfl hgc
                  go_simp
                  refine hK _ _ ?_
                  clear hK KK
                  try simp only [putAll, Act.put, List.setIfInBounds_toArray, List.set_cons_zero, List.set_cons_succ]
                  refine wpAny_done (by kernel_rfl) ?_ _
                  have G3 := G2.put 4 z9 rfl (.int .i64 PW)
                  simp only [List.set_cons_zero, List.set_cons_succ] at G3
                  rw [← List.map_set, HST.out] at G3
                  have F12 := Lib.hid G3
                  clear G3 hgc k0 kf G2 F11
                  go_wp2
                  have h7 := HLR.out
                  have h8 := HN10.out
                  go_roundw
                  case rel => exact ⟨r + 1, h7, congrArg (Value.int .i64) (by omega), F12⟩
                  case measure => simp only [intOf]; omega
                · obtain rfl : r = n1 := by omega
                  have hri : ¬ (r : Int) < (r : Int) := by omega
                  rw [fillD_all HN10.out.1] at F11
                  go_upto_region 24 with fail
                  clear hri
                  have hj2 : xs.length - 2 = j := by have := HNW.out; omega
                  obtain ⟨o1, o2, o3, o4, o5, o6, o7, o8, o9⟩ := ones_all (xs := xs) (ys := ys) (n := r) (f := fn) HTB.out HX3.out HN1.out HN10.out.2 HFB2.out.1 HFB2.out.2 HLI.out.1.1
                  have t1 := (tenB_iff.1 HTB.out).1
                  have ot := ones_ten HTB.out HX3.out o7 o8
                  have on := one_num0 t1 HX3.out
                  have ok1 : (oneW xs).K.all (okI 1) = true := List.all_eq_true.2 fun x hx => by rw [o2] at hx; unfold oneS at hx; have h9 : x = 1 := (List.mem_replicate.1 hx).2; exact okI_iff.2 (by omega)
                  rw [hj2] at o1 o2 o3 o4 o5
                  obtain ⟨WV, hWV⟩ : ∃ v, oneW xs = v := ⟨_, rfl⟩
                  have wS : WV.S = List.replicate j 1 := by rw [← hWV]; unfold oneW; simp only; rw [hj2]
                  have wP : WV.P = List.replicate j 0 := by rw [← hWV]; unfold oneW; simp only; rw [hj2]
                  have wD : WV.D = List.replicate j 1 := by rw [← hWV]; unfold oneW; simp only; rw [hj2]
                  have wL : WV.L = xs.drop 2 := by rw [← hWV]; rfl
                  rw [hWV] at o2 o3 o4 o5 o6 o7 o8 o9 ot on ok1
                  obtain ⟨OS, hOS⟩ : ∃ l, oneS r j = l := ⟨_, rfl⟩
                  obtain ⟨DD, hDD⟩ : ∃ l, oneD r fn = l := ⟨_, rfl⟩
                  have hOSl : OS.length = L8 := by rw [← hOS, HL8.out]; unfold oneS; simp; omega
                  have hDDl : DD.length = NQ := by rw [← hDD, ← HNQ.out]; simp [oneD]
                  rw [hOS] at o1 o2 o3 o4 o5
                  rw [hDD] at o1 o3 o5 F11
                  rw [show ((r : Int) :: (r : Int) :: List.replicate j (1 : Int)) = OS from hOS] at F11
                  have wK : WV.K.length = j := by rw [o2, List.length_drop, hOSl]; have := HL8.out; omega
                  have wSl : WV.S.length = j := by rw [wS]; simp
                  have wPl : WV.P.length = j := by rw [wP]; simp
                  have wDl : WV.D.length = j := by rw [wD]; simp
                  obtain ⟨S2, hS2⟩ : ∃ l, colS xs WV = l := ⟨_, rfl⟩
                  rw [hS2] at ot
                  have HCV := Lib.hid (fun W (h : Ints .i64 W W.heap.size (some ⟨gX, oX, none⟩) xs) (h2 : Ints .i64 W W.heap.size b ys) (h8 : Ints .i64 W W.heap.size (some ⟨g8, 0, none⟩) OS) (hS : Ints .i64 W W.heap.size e1 (List.replicate j 1)) (hP : Ints .i64 W W.heap.size e2 (List.replicate j 0)) (hD : Ints .i64 W W.heap.size e3 (List.replicate j 1)) (h4 : Ints .i64 W W.heap.size (some ⟨gd, 0, none⟩) DD) => (by rw [← wS] at hS; rw [← wP] at hP; rw [← wD] at hD; have h9 := conv_any (some ⟨gX, oX, none⟩) b (some ⟨g8, 0, none⟩) (some ⟨gd, 0, none⟩) c d c8 NQ xs ys OS DD none e1 e2 e3 0 g1 g2 g3 [] WV (fn : Int) W h h2 h8 h4 ints_none hS hP hD wL o2 HC1.out.1 HC1.out.2 (by rw [hOSl]; exact HC8.out.1) HC8.out.2; rw [o3, zL_0, zL_0, o4, Int.toNat_natCast, o5, hOSl, hDDl, wSl, wPl, wDl] at h9; exact h9 : Calls Try.prog 10 #[.agg #[.slice (some ⟨gX, oX, none⟩) xs.length c, .slice b ys.length d], .agg #[.slice (some ⟨g8, 0, none⟩) L8 c8, .slice (some ⟨gd, 0, none⟩) NQ NQ], .agg #[.slice none 0 0, .slice e1 j g1, .slice e2 j g2, .slice e3 j g3], .int .i64 (fn : Int)] W (RetTF W xs ys 0)))
                  have HKI := Lib.hid (fun W (h : Ints .i64 W W.heap.size (some ⟨g8, 0, none⟩) OS) => (by have h9 := ints_drop h 2; rw [← o2] at h9; exact h9 : Ints .i64 W W.heap.size (some ⟨g8, 2, none⟩) WV.K))
                  have HCL := Lib.hid (fun W (h : Ints .i64 W W.heap.size (some ⟨gX, oX, none⟩) xs) (h2 : Ints .i64 W W.heap.size b ys) (h8 : Ints .i64 W W.heap.size (some ⟨g8, 0, none⟩) OS) (hS : Ints .i64 W W.heap.size e1 (List.replicate j 1)) (hP : Ints .i64 W W.heap.size e2 (List.replicate j 0)) (hD : Ints .i64 W W.heap.size e3 (List.replicate j 1)) => (by have hk := HKI.out W h8; rw [← wS] at hS; rw [← wP] at hP; rw [← wD] at hD; have h9 := conCols_any (some ⟨gX, oX, none⟩) b (some ⟨g8, 2, none⟩) c d (c8 - 2) xs ys none e1 e2 e3 0 g1 g2 g3 [] WV W h h2 hk ints_none hS hP hD wL HC1.out.1 HC1.out.2; rw [o6, zL_0, zL_0, o8, hS2, wK, wSl, wPl, wDl] at h9; exact h9 : Calls Try.prog 15 #[.agg #[.slice (some ⟨gX, oX, none⟩) xs.length c, .slice b ys.length d], .slice (some ⟨g8, 2, none⟩) j (c8 - 2), .agg #[.slice none 0 0, .slice e1 j g1, .slice e2 j g2, .slice e3 j g3]] W (RetTF W S2 ys 0)))
                  have HBK := Lib.hid (fun aC bC cC dC W (hC : Ints .i64 W W.heap.size aC S2) (hC2 : Ints .i64 W W.heap.size bC ys) (h : Ints .i64 W W.heap.size (some ⟨gX, oX, none⟩) xs) (h2 : Ints .i64 W W.heap.size b ys) (h8 : Ints .i64 W W.heap.size (some ⟨g8, 0, none⟩) OS) (hS : Ints .i64 W W.heap.size e1 (List.replicate j 1)) (hP : Ints .i64 W W.heap.size e2 (List.replicate j 0)) (hD : Ints .i64 W W.heap.size e3 (List.replicate j 1)) => (by have hk := HKI.out W h8; rw [← wS] at hS; rw [← wP] at hP; rw [← wD] at hD; have h9 := conBack_ok aC bC (some ⟨gX, oX, none⟩) (some ⟨g8, 2, none⟩) cC dC c (c8 - 2) S2 ys xs none e1 e2 e3 0 g1 g2 g3 [] WV W hC hC2 h hk ints_none hS hP hD wL HC1.out.1 HC1.out.2 ot t1 ok1 on o7 hS2 (by rw [o9]; exact (tenB_iff.1 HTB.out).2.2); rw [o9, wK, wSl, wPl, wDl] at h9; exact h9 : Calls Try.prog 16 #[.agg #[.slice aC S2.length cC, .slice bC ys.length dC], .slice (some ⟨gX, oX, none⟩) xs.length c, .slice (some ⟨g8, 2, none⟩) j (c8 - 2), .agg #[.slice none 0 0, .slice e1 j g1, .slice e2 j g2, .slice e3 j g3]] W (RetTF W xs ys 0)))
                  have HEQ := Lib.hid (fun a1 b1 c1 d1 W (p1 : Ints .i64 W W.heap.size a1 xs) (p2 : Ints .i64 W W.heap.size b1 ys) (h : Ints .i64 W W.heap.size (some ⟨gX, oX, none⟩) xs) (h2 : Ints .i64 W W.heap.size b ys) => (by have h9 := eqTensor_any a1 b1 (some ⟨gX, oX, none⟩) b c1 d1 c d xs ys xs ys W p1 p2 h h2; simp only [decide_true, Bool.and_self] at h9; exact h9 : Calls Try.prog 22 #[.agg #[.slice a1 xs.length c1, .slice b1 ys.length d1], .agg #[.slice (some ⟨gX, oX, none⟩) xs.length c, .slice b ys.length d]] W fun e w' => e = .returned (.bool true) ∧ Below W.heap.size W w'))
                  have HOW := Lib.hid (show ∀ x ∈ OS, (Lit.int .i64 x).wf = true from wf_dims (fun x hx => by have := goodB_dims (tenB_iff.1 o1).1 x hx; omega))
                  have HDW := Lib.hid (show ∀ x ∈ DD, (Lit.int .i64 x).wf = true from fun x hx => by have h9 := isW_iff.1 ((tenB_iff.1 o1).2.2 x hx); exact wf_i64_iff.2 ⟨by omega, by omega⟩)
                  have HXW := Lib.hid (show ∀ x ∈ xs, (Lit.int .i64 x).wf = true from wf_dims (fun x hx => by have := goodB_dims t1 x hx; omega))
                  have HYW := Lib.hid (show ∀ x ∈ ys, (Lit.int .i64 x).wf = true from fun x hx => by have h9 := isW_iff.1 ((tenB_iff.1 HTB.out).2.2 x hx); exact wf_i64_iff.2 ⟨by omega, by omega⟩)
                  have HSW := Lib.hid (show ∀ x ∈ S2, (Lit.int .i64 x).wf = true from wf_dims (fun x hx => by have := goodB_dims (tenB_iff.1 ot).1 x hx; omega))
                  have HRW := Lib.hid (show (∀ x ∈ List.replicate j (1 : Int), (Lit.int .i64 x).wf = true) ∧ (∀ x ∈ List.replicate j (0 : Int), (Lit.int .i64 x).wf = true) from ⟨fun x hx => by rw [(List.mem_replicate.1 hx).2]; decide, fun x hx => by rw [(List.mem_replicate.1 hx).2]; decide⟩)
                  have HL82 := Lib.hid (show L8 - 2 = j by have := HL8.out; omega)
                  clear o1 o2 o3 o4 o5 o6 o7 o8 o9 ot on ok1 hWV wS wP wD wL hOS hDD hOSl hDDl wK wSl wPl wDl hS2 t1 hj2
                  have c0_0 := F11.out.c 0 0 rfl rfl
                  have c0_1 := F11.out.c 0 1 rfl rfl
                  have c0_2 := F11.out.c 0 2 rfl rfl
                  have c0_3 := F11.out.c 0 3 rfl rfl
                  have c0_4 := F11.out.c 0 4 rfl rfl
                  have c0_5 := F11.out.c 0 5 rfl rfl
                  have c0_6 := F11.out.c 0 6 rfl rfl
                  have c0_7 := F11.out.c 0 7 rfl rfl
                  have c0_8 := F11.out.c 0 8 rfl rfl
                  have c0_9 := F11.out.c 0 9 rfl rfl
                  have c0_10 := F11.out.c 0 10 rfl rfl
                  have c1_0 := F11.out.c 1 0 rfl rfl
                  have c1_1 := F11.out.c 1 1 rfl rfl
                  have c1_2 := F11.out.c 1 2 rfl rfl
                  have c1_3 := F11.out.c 1 3 rfl rfl
                  have c2_0 := F11.out.c 2 0 rfl rfl
                  have c2_1 := F11.out.c 2 1 rfl rfl
                  go_upto_region 25 with (first | (go_at_call 10; refine (HCV.out _ (F11.out.lw 0 rfl) (F11.out.lw 1 rfl) (F11.out.li 0 (k := .i64) (xs := OS) rfl HOW.out) (F11.out.li 1 (k := .i64) (xs := List.replicate j 1) rfl HRW.out.1) (F11.out.li 2 (k := .i64) (xs := List.replicate j 0) rfl HRW.out.2) (F11.out.li 3 (k := .i64) (xs := List.replicate j 1) rfl HRW.out.1) (F11.out.li 4 (k := .i64) (xs := DD) rfl HDW.out)).mono ?_; rintro e w6 ⟨aT, cT, bT, dT, rfl, hf⟩; have F12 := Lib.hid (F11.out.join hf); simp only [List.nil_append, List.cons_append] at F12; clear hf F11 c0_0 c0_1 c0_2 c0_3 c0_4 c0_5 c0_6 c0_7 c0_8 c0_9 c0_10 c1_0 c1_1 c1_2 c1_3 c2_0 c2_1) | fail)
                  obtain ⟨Q6, hQ6⟩ : ∃ x, w6.heap.size = x := ⟨_, rfl⟩
                  rw [hQ6]
                  have F13 := Lib.hid (F12.out.box1 (b := Q6) hQ6 [.slice aT xs.length cT, .slice bT ys.length dT] 26)
                  simp only [List.nil_append, List.cons_append] at F13
                  obtain ⟨W13, hW13⟩ : ∃ x, (w6.alloc (.cells #[.slice aT xs.length cT, .slice bT ys.length dT] 26)) = x := ⟨_, rfl⟩
                  rw [hW13] at F13 ⊢
                  clear hW13 hQ6 F12
                  have c0_0 := F13.out.c 0 0 rfl rfl
                  have c0_1 := F13.out.c 0 1 rfl rfl
                  have c0_2 := F13.out.c 0 2 rfl rfl
                  have c0_3 := F13.out.c 0 3 rfl rfl
                  have c0_4 := F13.out.c 0 4 rfl rfl
                  have c0_5 := F13.out.c 0 5 rfl rfl
                  have c0_6 := F13.out.c 0 6 rfl rfl
                  have c0_7 := F13.out.c 0 7 rfl rfl
                  have c0_8 := F13.out.c 0 8 rfl rfl
                  have c0_9 := F13.out.c 0 9 rfl rfl
                  have c0_10 := F13.out.c 0 10 rfl rfl
                  have c3_0 := F13.out.c 3 0 rfl rfl
                  have c3_1 := F13.out.c 3 1 rfl rfl
                  go_upto_region 27 with (first | (go_at_call 11; refine (num11_any _ _).mono ?_; rintro e w' ⟨rfl, rfl⟩) | (go_at_call 22; refine (HEQ.out _ _ _ _ _ (F13.out.li 5 (k := .i64) (xs := xs) rfl HXW.out) (F13.out.li 6 (k := .i64) (xs := ys) rfl HYW.out) (F13.out.lw 0 rfl) (F13.out.lw 1 rfl)).mono ?_; rintro e w7 ⟨rfl, hb⟩; have F14 := Lib.hid (F13.out.next hb); clear hb F13 c0_0 c0_1 c0_2 c0_3 c0_4 c0_5 c0_6 c0_7 c0_8 c0_9 c0_10 c3_0 c3_1) | fail)
                  go_cut [14, 15] from 131 to 165 (fun s14 s15 wx => ∃ Q8 aC cC bC dC, s14 = .pointer (some ⟨Q8, 0, none⟩) ∧ s15 = .int .i64 0 ∧ Hid (Fr wo.heap.size wo wx [(wo.heap.size, [.slice (some ⟨gX, oX, none⟩) xs.length c, .slice b ys.length d, .slice a2 ws.length c2, .slice b2 vs.length dw, .slice aQ Q.length cQ, .slice aS wv.S.length cS, .slice aP wv.P.length cP, .slice aD wv.D.length cD, .slice aI I.length cI, .slice aJ J.length cJ, .int .i64 f]), (Y7, [.slice none 0 0, .slice e1 j g1, .slice e2 j g2, .slice e3 j g3]), (T9, [.slice (some ⟨g8, 0, none⟩) L8 c8, .slice (some ⟨gd, 0, none⟩) NQ NQ]), (Q6, [.slice aT xs.length cT, .slice bT ys.length dT]), (Q8, [.slice aC S2.length cC, .slice bC ys.length dC])] [(.i64, (some ⟨gX, oX, none⟩), xs), (.i64, b, ys), (.i64, a2, ws), (.i64, b2, vs), (.i64, aQ, Q), (.i64, aS, wv.S), (.i64, aP, wv.P), (.i64, aD, wv.D), (.i64, aI, I), (.i64, aJ, J)] [⟨3, .slice (some ⟨g8, 0, none⟩) L8 c8, L8, OS.map (Value.int .i64)⟩, ⟨3, .slice e1 j g1, j, (List.replicate j (1 : Int)).map (Value.int .i64)⟩, ⟨3, .slice e2 j g2, j, (List.replicate j (0 : Int)).map (Value.int .i64)⟩, ⟨3, .slice e3 j g3, j, (List.replicate j (1 : Int)).map (Value.int .i64)⟩, ⟨2, .slice (some ⟨gd, 0, none⟩) NQ NQ, NQ, DD.map (Value.int .i64)⟩, ⟨3, .slice aT xs.length cT, xs.length, xs.map (Value.int .i64)⟩, ⟨2, .slice bT ys.length dT, ys.length, ys.map (Value.int .i64)⟩, ⟨3, .slice aC S2.length cC, S2.length, S2.map (Value.int .i64)⟩, ⟨2, .slice bC ys.length dC, ys.length, ys.map (Value.int .i64)⟩] []))
                  case first => as_aux_lemma =>
                    have FD := F14.out.drew
                    refine wp_region_J (S := fun _ => True) (S1 := fun W9 => W9.cell? ⟨wo.heap.size, 0, none⟩ = some (.slice (some ⟨gX, oX, none⟩) xs.length c) ∧ W9.cell? ⟨wo.heap.size, 1, none⟩ = some (.slice b ys.length d) ∧ W9.cell? ⟨Y7, 0, none⟩ = some (.slice none 0 0) ∧ W9.cell? ⟨Y7, 1, none⟩ = some (.slice e1 j g1) ∧ W9.cell? ⟨Y7, 2, none⟩ = some (.slice e2 j g2) ∧ W9.cell? ⟨Y7, 3, none⟩ = some (.slice e3 j g3)) (L := [0, 1, 2, 3, 4, 5, 6, 7, 8, 9, 10, 11]) (by kernel_rfl) trivial ⟨FD.c 0 0 rfl rfl, FD.c 0 1 rfl rfl, FD.c 1 0 rfl rfl, FD.c 1 1 rfl rfl, FD.c 1 2 rfl rfl, FD.c 1 3 rfl rfl⟩ (fun hHeld hHeld1 => ?_)
                    obtain ⟨v0, hv0⟩ : ∃ x, w7.drew = x := ⟨_, rfl⟩
                    rw [hv0] at FD hHeld1 ⊢
                    clear hv0
                    refine takeJ1 (i := 0) (dst := (some 132)) (v := .pointer (some ⟨wo.heap.size, 0, none⟩)) rfl rfl (by kernel_rfl) (by kernel_rfl) (by kernel_rfl) (by kernel_rfl) (fun _ _ _ h => h) (by rfl) ?hyj27cn1 hHeld1 ?restj27cn1
                    case hyj27cn1 =>
                      intro W hSw
                      go_simp
                      (try with_reducible rfl)
                    try simp only [Act.put, List.setIfInBounds_toArray, List.set_cons_zero, List.set_cons_succ]
                    refine takeJ1 (i := 1) (dst := (some 133)) (v := .agg #[.slice (some ⟨gX, oX, none⟩) xs.length c, .slice b ys.length d]) rfl rfl (by kernel_rfl) (by kernel_rfl) (by kernel_rfl) (by kernel_rfl) (fun _ _ _ h => h) (by rfl) ?hyj27cn2 hHeld1 ?restj27cn2
                    case hyj27cn2 =>
                      intro W hSw
                      obtain ⟨s0, s1, s2, s3, s4, s5⟩ := hSw
                      go_simp
                      (try with_reducible rfl)
                    try simp only [Act.put, List.setIfInBounds_toArray, List.set_cons_zero, List.set_cons_succ]
                    refine takeJ1 (i := 2) (dst := (some 134)) (v := .slice (some ⟨g8, 0, none⟩) L8 c8) rfl rfl (by kernel_rfl) (by kernel_rfl) (by kernel_rfl) (by kernel_rfl) (fun _ _ _ h => h) (by rfl) ?hyj27cn3 hHeld1 ?restj27cn3
                    case hyj27cn3 =>
                      intro W hSw
                      go_simp
                      (try with_reducible rfl)
                    try simp only [Act.put, List.setIfInBounds_toArray, List.set_cons_zero, List.set_cons_succ]
                    refine takeJ1 (i := 3) (dst := (some 135)) (v := .slice (some ⟨g8, 2, none⟩) j (c8 - 2)) rfl rfl (by kernel_rfl) (by kernel_rfl) (by kernel_rfl) (by kernel_rfl) (fun _ _ _ h => h) (by rfl) ?hyj27cn4 hHeld1 ?restj27cn4
                    case hyj27cn4 =>
                      intro W hSw
                      have hxx := HL82.out
                      have g9 := HL8.out
                      have g8_ := HC8.out
                      have g1_ : (2 : Int) ≤ (L8 : Int) := by omega
                      have g2_ : (L8 : Int) ≤ (c8 : Int) := by omega
                      have g3_ : ¬ c8 = 2 := by have := HX3.out; have := HNW.out; omega
                      clear g9 g8_
                      go_simp
                      (try with_reducible rfl)
                    try simp only [Act.put, List.setIfInBounds_toArray, List.set_cons_zero, List.set_cons_succ]
                    refine takeJ1 (i := 4) (dst := (some 136)) (v := .agg #[.slice none 0 0, .slice e1 j g1, .slice e2 j g2, .slice e3 j g3]) rfl rfl (by kernel_rfl) (by kernel_rfl) (by kernel_rfl) (by kernel_rfl) (fun _ _ _ h => h) (by rfl) ?hyj27cn5 hHeld1 ?restj27cn5
                    case hyj27cn5 =>
                      intro W hSw
                      obtain ⟨s0, s1, s2, s3, s4, s5⟩ := hSw
                      go_simp
                      (try with_reducible rfl)
                    try simp only [Act.put, List.setIfInBounds_toArray, List.set_cons_zero, List.set_cons_succ]
                    refine readyJ (rs := [5, 9]) (by kernel_rfl) (by simp) ?_
                    refine (AllJ.cons rfl ?op5zc1 (AllJ.cons rfl ?op9zc1 AllJ.nil))
                    case op5zc1 =>
                      intro K hK
                      go_simp
                      go_at_call 15
                      refine (HCL.out v0 (FD.lw 0 rfl) (FD.lw 1 rfl) (FD.li 0 (k := .i64) (xs := OS) rfl HOW.out) (FD.li 1 (k := .i64) (xs := List.replicate j 1) rfl HRW.out.1) (FD.li 2 (k := .i64) (xs := List.replicate j 0) rfl HRW.out.2) (FD.li 3 (k := .i64) (xs := List.replicate j 1) rfl HRW.out.1)).mono ?_
                      rintro e v0x5 ⟨aC, cC, bC, dC, rfl, hf⟩
                      have G0x5 := FD.join hf
                      simp only [List.nil_append, List.cons_append] at G0x5
                      clear hf
                      refine hK.out _ _ (fun _ => trivial) ⟨G0x5.c 0 0 rfl rfl, G0x5.c 0 1 rfl rfl, G0x5.c 1 0 rfl rfl, G0x5.c 1 1 rfl rfl, G0x5.c 1 2 rfl rfl, G0x5.c 1 3 rfl rfl⟩ (fun hHeld hHeld1 => ?_)
                      clear hK K
                      try simp only [Act.put, List.setIfInBounds_toArray, List.set_cons_zero, List.set_cons_succ]
                      refine takeJ1 (i := 6) (dst := (some 131)) (v := .tuple #[.agg #[.slice aC S2.length cC, .slice bC ys.length dC], .int .i64 0]) rfl rfl (by kernel_rfl) (by kernel_rfl) (by kernel_rfl) (by kernel_rfl) (fun _ _ _ h => h) (by rfl) ?hyj27cn6 hHeld1 ?restj27cn6
                      case hyj27cn6 =>
                        intro W hSw
                        go_simp
                        (try with_reducible rfl)
                      try simp only [Act.put, List.setIfInBounds_toArray, List.set_cons_zero, List.set_cons_succ]
                      refine takeJ1 (i := 7) (dst := (some 138)) (v := .agg #[.slice aC S2.length cC, .slice bC ys.length dC]) rfl rfl (by kernel_rfl) (by kernel_rfl) (by kernel_rfl) (by kernel_rfl) (fun _ _ _ h => h) (by rfl) ?hyj27cn7 hHeld1 ?restj27cn7
                      case hyj27cn7 =>
                        intro W hSw
                        go_simp
                        (try with_reducible rfl)
                      try simp only [Act.put, List.setIfInBounds_toArray, List.set_cons_zero, List.set_cons_succ]
                      refine takeJ1 (i := 8) (dst := (some 139)) (v := .int .i64 0) rfl rfl (by kernel_rfl) (by kernel_rfl) (by kernel_rfl) (by kernel_rfl) (fun _ _ _ h => h) (by rfl) ?hyj27cn8 hHeld1 ?restj27cn8
                      case hyj27cn8 =>
                        intro W hSw
                        go_simp
                        (try with_reducible rfl)
                      try simp only [Act.put, List.setIfInBounds_toArray, List.set_cons_zero, List.set_cons_succ]
                      refine readyJ (rs := [9]) (by kernel_rfl) (by simp) ?_
                      refine (AllJ.cons rfl ?op9zc2 AllJ.nil)
                      case op9zc2 =>
                        intro K hK
                        go_simp
                        obtain ⟨Q8, hQ8⟩ : ∃ y, v0x5.heap.size = y := ⟨_, rfl⟩
                        rw [hQ8]
                        have G4x9 := G0x5.box1 hQ8 [.slice none 0 0, .slice none 0 0] 26
                        simp only [List.cons_append, List.nil_append] at G4x9
                        obtain ⟨v4x9, h9_⟩ : ∃ zz, (v0x5.alloc (.cells #[.slice none 0 0, .slice none 0 0] 26)) = zz := ⟨_, rfl⟩
                        rw [h9_] at G4x9 ⊢
                        clear h9_ hQ8
                        refine hK.out _ _ (fun _ => trivial) ⟨G4x9.c 0 0 rfl rfl, G4x9.c 0 1 rfl rfl, G4x9.c 1 0 rfl rfl, G4x9.c 1 1 rfl rfl, G4x9.c 1 2 rfl rfl, G4x9.c 1 3 rfl rfl⟩ (fun hHeld hHeld1 => ?_)
                        clear hK K
                        try simp only [Act.put, List.setIfInBounds_toArray, List.set_cons_zero, List.set_cons_succ]
                        refine readyJ (rs := [10]) (by kernel_rfl) (by simp) ?_
                        refine (AllJ.cons rfl ?op10zc3 AllJ.nil)
                        case op10zc3 =>
                          intro K hK
                          have k0 := G4x9.c 4 0 rfl rfl
                          have kf0 := G4x9.f 4 0 rfl rfl
                          have k1 := G4x9.c 4 1 rfl rfl
                          have kf1 := G4x9.f 4 1 rfl rfl
                          go_simp
                          have G5x10 := G4x9.set 4 rfl (by simp) [.slice aC S2.length cC, .slice bC ys.length dC] rfl
                          simp only [setL, Nat.reduceAdd, List.set_cons_zero, List.set_cons_succ] at G5x10
                          clear k0 kf0 k1 kf1
                          refine hK.out _ _ (fun _ => trivial) ⟨G5x10.c 0 0 rfl rfl, G5x10.c 0 1 rfl rfl, G5x10.c 1 0 rfl rfl, G5x10.c 1 1 rfl rfl, G5x10.c 1 2 rfl rfl, G5x10.c 1 3 rfl rfl⟩ (fun hHeld hHeld1 => ?_)
                          clear hK K
                          try simp only [Act.put, List.setIfInBounds_toArray, List.set_cons_zero, List.set_cons_succ]
                          refine takeJ1 (i := 11) (dst := (some 15)) (v := .int .i64 0) rfl rfl (by kernel_rfl) (by kernel_rfl) (by kernel_rfl) (by kernel_rfl) (fun _ _ _ h => h) (by rfl) ?hyj27cn9 hHeld1 ?restj27cn9
                          case hyj27cn9 =>
                            intro W hSw
                            go_simp
                            (try with_reducible rfl)
                          try simp only [Act.put, List.setIfInBounds_toArray, List.set_cons_zero, List.set_cons_succ]
                          refine doneJ (by kernel_rfl) ?_
                          (try dsimp only)
                          go_wp2
                          go_meet
                          exact ⟨Q8, aC, cC, bC, dC, rfl, rfl, Lib.hid G5x10⟩
                    case op9zc1 =>
                      intro K hK
                      go_simp
                      obtain ⟨Q8, hQ8⟩ : ∃ y, v0.heap.size = y := ⟨_, rfl⟩
                      rw [hQ8]
                      have G0x9 := FD.box1 hQ8 [.slice none 0 0, .slice none 0 0] 26
                      simp only [List.cons_append, List.nil_append] at G0x9
                      obtain ⟨v0x9, h9_⟩ : ∃ zz, (v0.alloc (.cells #[.slice none 0 0, .slice none 0 0] 26)) = zz := ⟨_, rfl⟩
                      rw [h9_] at G0x9 ⊢
                      clear h9_ hQ8
                      refine hK.out _ _ (fun _ => trivial) ⟨G0x9.c 0 0 rfl rfl, G0x9.c 0 1 rfl rfl, G0x9.c 1 0 rfl rfl, G0x9.c 1 1 rfl rfl, G0x9.c 1 2 rfl rfl, G0x9.c 1 3 rfl rfl⟩ (fun hHeld hHeld1 => ?_)
                      clear hK K
                      try simp only [Act.put, List.setIfInBounds_toArray, List.set_cons_zero, List.set_cons_succ]
                      refine readyJ (rs := [5]) (by kernel_rfl) (by simp) ?_
                      refine (AllJ.cons rfl ?op5zc4 AllJ.nil)
                      case op5zc4 =>
                        intro K hK
                        go_simp
                        go_at_call 15
                        refine (HCL.out v0x9 (G0x9.lw 0 rfl) (G0x9.lw 1 rfl) (G0x9.li 0 (k := .i64) (xs := OS) rfl HOW.out) (G0x9.li 1 (k := .i64) (xs := List.replicate j 1) rfl HRW.out.1) (G0x9.li 2 (k := .i64) (xs := List.replicate j 0) rfl HRW.out.2) (G0x9.li 3 (k := .i64) (xs := List.replicate j 1) rfl HRW.out.1)).mono ?_
                        rintro e v1x5 ⟨aC, cC, bC, dC, rfl, hf⟩
                        have G1x5 := G0x9.join hf
                        simp only [List.nil_append, List.cons_append] at G1x5
                        clear hf
                        refine hK.out _ _ (fun _ => trivial) ⟨G1x5.c 0 0 rfl rfl, G1x5.c 0 1 rfl rfl, G1x5.c 1 0 rfl rfl, G1x5.c 1 1 rfl rfl, G1x5.c 1 2 rfl rfl, G1x5.c 1 3 rfl rfl⟩ (fun hHeld hHeld1 => ?_)
                        clear hK K
                        try simp only [Act.put, List.setIfInBounds_toArray, List.set_cons_zero, List.set_cons_succ]
                        refine takeJ1 (i := 6) (dst := (some 131)) (v := .tuple #[.agg #[.slice aC S2.length cC, .slice bC ys.length dC], .int .i64 0]) rfl rfl (by kernel_rfl) (by kernel_rfl) (by kernel_rfl) (by kernel_rfl) (fun _ _ _ h => h) (by rfl) ?hyj27cn10 hHeld1 ?restj27cn10
                        case hyj27cn10 =>
                          intro W hSw
                          go_simp
                          (try with_reducible rfl)
                        try simp only [Act.put, List.setIfInBounds_toArray, List.set_cons_zero, List.set_cons_succ]
                        refine takeJ1 (i := 7) (dst := (some 138)) (v := .agg #[.slice aC S2.length cC, .slice bC ys.length dC]) rfl rfl (by kernel_rfl) (by kernel_rfl) (by kernel_rfl) (by kernel_rfl) (fun _ _ _ h => h) (by rfl) ?hyj27cn11 hHeld1 ?restj27cn11
                        case hyj27cn11 =>
                          intro W hSw
                          go_simp
                          (try with_reducible rfl)
                        try simp only [Act.put, List.setIfInBounds_toArray, List.set_cons_zero, List.set_cons_succ]
                        refine takeJ1 (i := 8) (dst := (some 139)) (v := .int .i64 0) rfl rfl (by kernel_rfl) (by kernel_rfl) (by kernel_rfl) (by kernel_rfl) (fun _ _ _ h => h) (by rfl) ?hyj27cn12 hHeld1 ?restj27cn12
                        case hyj27cn12 =>
                          intro W hSw
                          go_simp
                          (try with_reducible rfl)
                        try simp only [Act.put, List.setIfInBounds_toArray, List.set_cons_zero, List.set_cons_succ]
                        refine readyJ (rs := [10]) (by kernel_rfl) (by simp) ?_
                        refine (AllJ.cons rfl ?op10zc5 AllJ.nil)
                        case op10zc5 =>
                          intro K hK
                          have k0 := G1x5.c 4 0 rfl rfl
                          have kf0 := G1x5.f 4 0 rfl rfl
                          have k1 := G1x5.c 4 1 rfl rfl
                          have kf1 := G1x5.f 4 1 rfl rfl
                          go_simp
                          have G5x10 := G1x5.set 4 rfl (by simp) [.slice aC S2.length cC, .slice bC ys.length dC] rfl
                          simp only [setL, Nat.reduceAdd, List.set_cons_zero, List.set_cons_succ] at G5x10
                          clear k0 kf0 k1 kf1
                          refine hK.out _ _ (fun _ => trivial) ⟨G5x10.c 0 0 rfl rfl, G5x10.c 0 1 rfl rfl, G5x10.c 1 0 rfl rfl, G5x10.c 1 1 rfl rfl, G5x10.c 1 2 rfl rfl, G5x10.c 1 3 rfl rfl⟩ (fun hHeld hHeld1 => ?_)
                          clear hK K
                          try simp only [Act.put, List.setIfInBounds_toArray, List.set_cons_zero, List.set_cons_succ]
                          refine takeJ1 (i := 11) (dst := (some 15)) (v := .int .i64 0) rfl rfl (by kernel_rfl) (by kernel_rfl) (by kernel_rfl) (by kernel_rfl) (fun _ _ _ h => h) (by rfl) ?hyj27cn13 hHeld1 ?restj27cn13
                          case hyj27cn13 =>
                            intro W hSw
                            go_simp
                            (try with_reducible rfl)
                          try simp only [Act.put, List.setIfInBounds_toArray, List.set_cons_zero, List.set_cons_succ]
                          refine doneJ (by kernel_rfl) ?_
                          (try dsimp only)
                          go_wp2
                          go_meet
                          exact ⟨Q8, aC, cC, bC, dC, rfl, rfl, Lib.hid G5x10⟩
                  case rest =>
                    obtain ⟨Q8, aC, cC, bC, dC, rfl, rfl, F15⟩ := hcut
                    clear F14
                    obtain ⟨W15, rfl⟩ : ∃ x : World, x = wc := ⟨_, rfl⟩
                    go_upto_region 28 with fail
                    go_cut [16, 17] from 140 to 165 (fun s16 s17 wx => ∃ Q9 aB cB bB dB, s16 = .pointer (some ⟨Q9, 0, none⟩) ∧ s17 = .int .i64 0 ∧ Hid (Fr wo.heap.size wo wx [(wo.heap.size, [.slice (some ⟨gX, oX, none⟩) xs.length c, .slice b ys.length d, .slice a2 ws.length c2, .slice b2 vs.length dw, .slice aQ Q.length cQ, .slice aS wv.S.length cS, .slice aP wv.P.length cP, .slice aD wv.D.length cD, .slice aI I.length cI, .slice aJ J.length cJ, .int .i64 f]), (Y7, [.slice none 0 0, .slice e1 j g1, .slice e2 j g2, .slice e3 j g3]), (T9, [.slice (some ⟨g8, 0, none⟩) L8 c8, .slice (some ⟨gd, 0, none⟩) NQ NQ]), (Q6, [.slice aT xs.length cT, .slice bT ys.length dT]), (Q8, [.slice aC S2.length cC, .slice bC ys.length dC]), (Q9, [.slice aB xs.length cB, .slice bB ys.length dB])] [(.i64, (some ⟨gX, oX, none⟩), xs), (.i64, b, ys), (.i64, a2, ws), (.i64, b2, vs), (.i64, aQ, Q), (.i64, aS, wv.S), (.i64, aP, wv.P), (.i64, aD, wv.D), (.i64, aI, I), (.i64, aJ, J)] [⟨3, .slice (some ⟨g8, 0, none⟩) L8 c8, L8, OS.map (Value.int .i64)⟩, ⟨3, .slice e1 j g1, j, (List.replicate j (1 : Int)).map (Value.int .i64)⟩, ⟨3, .slice e2 j g2, j, (List.replicate j (0 : Int)).map (Value.int .i64)⟩, ⟨3, .slice e3 j g3, j, (List.replicate j (1 : Int)).map (Value.int .i64)⟩, ⟨2, .slice (some ⟨gd, 0, none⟩) NQ NQ, NQ, DD.map (Value.int .i64)⟩, ⟨3, .slice aT xs.length cT, xs.length, xs.map (Value.int .i64)⟩, ⟨2, .slice bT ys.length dT, ys.length, ys.map (Value.int .i64)⟩, ⟨3, .slice aC S2.length cC, S2.length, S2.map (Value.int .i64)⟩, ⟨2, .slice bC ys.length dC, ys.length, ys.map (Value.int .i64)⟩, ⟨3, .slice aB xs.length cB, xs.length, xs.map (Value.int .i64)⟩, ⟨2, .slice bB ys.length dB, ys.length, ys.map (Value.int .i64)⟩] []))
                    case first => as_aux_lemma =>
                      have FD := F15.out.drew
                      refine wp_region_J (S := fun _ => True) (S1 := fun W9 => W9.cell? ⟨wo.heap.size, 0, none⟩ = some (.slice (some ⟨gX, oX, none⟩) xs.length c) ∧ W9.cell? ⟨Y7, 0, none⟩ = some (.slice none 0 0) ∧ W9.cell? ⟨Y7, 1, none⟩ = some (.slice e1 j g1) ∧ W9.cell? ⟨Y7, 2, none⟩ = some (.slice e2 j g2) ∧ W9.cell? ⟨Y7, 3, none⟩ = some (.slice e3 j g3) ∧ W9.cell? ⟨Q8, 0, none⟩ = some (.slice aC S2.length cC) ∧ W9.cell? ⟨Q8, 1, none⟩ = some (.slice bC ys.length dC)) (L := [0, 1, 2, 3, 4, 5, 6, 7, 8, 9, 10, 11, 12, 13]) (by kernel_rfl) trivial ⟨FD.c 0 0 rfl rfl, FD.c 1 0 rfl rfl, FD.c 1 1 rfl rfl, FD.c 1 2 rfl rfl, FD.c 1 3 rfl rfl, FD.c 4 0 rfl rfl, FD.c 4 1 rfl rfl⟩ (fun hHeld hHeld1 => ?_)
                      obtain ⟨v0, hv0⟩ : ∃ x, W15.drew = x := ⟨_, rfl⟩
                      rw [hv0] at FD hHeld1 ⊢
                      clear hv0
                      refine takeJ1 (i := 0) (dst := (some 141)) (v := .agg #[.slice aC S2.length cC, .slice bC ys.length dC]) rfl rfl (by kernel_rfl) (by kernel_rfl) (by kernel_rfl) (by kernel_rfl) (fun _ _ _ h => h) (by rfl) ?hyj28kn1 hHeld1 ?restj28kn1
                      case hyj28kn1 =>
                        intro W hSw
                        obtain ⟨s0, s1, s2, s3, s4, s5, s6⟩ := hSw
                        go_simp
                        (try with_reducible rfl)
                      try simp only [Act.put, List.setIfInBounds_toArray, List.set_cons_zero, List.set_cons_succ]
                      refine takeJ1 (i := 1) (dst := (some 142)) (v := .pointer (some ⟨wo.heap.size, 0, none⟩)) rfl rfl (by kernel_rfl) (by kernel_rfl) (by kernel_rfl) (by kernel_rfl) (fun _ _ _ h => h) (by rfl) ?hyj28kn2 hHeld1 ?restj28kn2
                      case hyj28kn2 =>
                        intro W hSw
                        go_simp
                        (try with_reducible rfl)
                      try simp only [Act.put, List.setIfInBounds_toArray, List.set_cons_zero, List.set_cons_succ]
                      refine takeJ1 (i := 2) (dst := (some 143)) (v := .pointer (some ⟨wo.heap.size, 0, none⟩)) rfl rfl (by kernel_rfl) (by kernel_rfl) (by kernel_rfl) (by kernel_rfl) (fun _ _ _ h => h) (by rfl) ?hyj28kn3 hHeld1 ?restj28kn3
                      case hyj28kn3 =>
                        intro W hSw
                        go_simp
                        (try with_reducible rfl)
                      try simp only [Act.put, List.setIfInBounds_toArray, List.set_cons_zero, List.set_cons_succ]
                      refine takeJ1 (i := 3) (dst := (some 144)) (v := .slice (some ⟨gX, oX, none⟩) xs.length c) rfl rfl (by kernel_rfl) (by kernel_rfl) (by kernel_rfl) (by kernel_rfl) (fun _ _ _ h => h) (by rfl) ?hyj28kn4 hHeld1 ?restj28kn4
                      case hyj28kn4 =>
                        intro W hSw
                        obtain ⟨s0, s1, s2, s3, s4, s5, s6⟩ := hSw
                        go_simp
                        (try with_reducible rfl)
                      try simp only [Act.put, List.setIfInBounds_toArray, List.set_cons_zero, List.set_cons_succ]
                      refine takeJ1 (i := 4) (dst := (some 145)) (v := .slice (some ⟨g8, 0, none⟩) L8 c8) rfl rfl (by kernel_rfl) (by kernel_rfl) (by kernel_rfl) (by kernel_rfl) (fun _ _ _ h => h) (by rfl) ?hyj28kn5 hHeld1 ?restj28kn5
                      case hyj28kn5 =>
                        intro W hSw
                        go_simp
                        (try with_reducible rfl)
                      try simp only [Act.put, List.setIfInBounds_toArray, List.set_cons_zero, List.set_cons_succ]
                      refine takeJ1 (i := 5) (dst := (some 146)) (v := .slice (some ⟨g8, 2, none⟩) j (c8 - 2)) rfl rfl (by kernel_rfl) (by kernel_rfl) (by kernel_rfl) (by kernel_rfl) (fun _ _ _ h => h) (by rfl) ?hyj28kn6 hHeld1 ?restj28kn6
                      case hyj28kn6 =>
                        intro W hSw
                        have hxx := HL82.out
                        have g9 := HL8.out
                        have g8_ := HC8.out
                        have g1_ : (2 : Int) ≤ (L8 : Int) := by omega
                        have g2_ : (L8 : Int) ≤ (c8 : Int) := by omega
                        have g3_ : ¬ c8 = 2 := by have := HX3.out; have := HNW.out; omega
                        clear g9 g8_
                        go_simp
                        (try with_reducible rfl)
                      try simp only [Act.put, List.setIfInBounds_toArray, List.set_cons_zero, List.set_cons_succ]
                      refine takeJ1 (i := 6) (dst := (some 147)) (v := .agg #[.slice none 0 0, .slice e1 j g1, .slice e2 j g2, .slice e3 j g3]) rfl rfl (by kernel_rfl) (by kernel_rfl) (by kernel_rfl) (by kernel_rfl) (fun _ _ _ h => h) (by rfl) ?hyj28kn7 hHeld1 ?restj28kn7
                      case hyj28kn7 =>
                        intro W hSw
                        obtain ⟨s0, s1, s2, s3, s4, s5, s6⟩ := hSw
                        go_simp
                        (try with_reducible rfl)
                      try simp only [Act.put, List.setIfInBounds_toArray, List.set_cons_zero, List.set_cons_succ]
                      refine readyJ (rs := [7, 11]) (by kernel_rfl) (by simp) ?_
                      refine (AllJ.cons rfl ?op7zk6 (AllJ.cons rfl ?op11zk6 AllJ.nil))
                      case op7zk6 =>
                        intro K hK
                        go_simp
                        go_at_call 16
                        refine (HBK.out aC bC cC dC v0 (FD.li 7 (k := .i64) (xs := S2) rfl HSW.out) (FD.li 8 (k := .i64) (xs := ys) rfl HYW.out) (FD.lw 0 rfl) (FD.lw 1 rfl) (FD.li 0 (k := .i64) (xs := OS) rfl HOW.out) (FD.li 1 (k := .i64) (xs := List.replicate j 1) rfl HRW.out.1) (FD.li 2 (k := .i64) (xs := List.replicate j 0) rfl HRW.out.2) (FD.li 3 (k := .i64) (xs := List.replicate j 1) rfl HRW.out.1)).mono ?_
                        rintro e v0x7 ⟨aB, cB, bB, dB, rfl, hf⟩
                        have G0x7 := FD.join hf
                        simp only [List.nil_append, List.cons_append] at G0x7
                        clear hf
                        refine hK.out _ _ (fun _ => trivial) ⟨G0x7.c 0 0 rfl rfl, G0x7.c 1 0 rfl rfl, G0x7.c 1 1 rfl rfl, G0x7.c 1 2 rfl rfl, G0x7.c 1 3 rfl rfl, G0x7.c 4 0 rfl rfl, G0x7.c 4 1 rfl rfl⟩ (fun hHeld hHeld1 => ?_)
                        clear hK K
                        try simp only [Act.put, List.setIfInBounds_toArray, List.set_cons_zero, List.set_cons_succ]
                        refine takeJ1 (i := 8) (dst := (some 140)) (v := .tuple #[.agg #[.slice aB xs.length cB, .slice bB ys.length dB], .int .i64 0]) rfl rfl (by kernel_rfl) (by kernel_rfl) (by kernel_rfl) (by kernel_rfl) (fun _ _ _ h => h) (by rfl) ?hyj28kn8 hHeld1 ?restj28kn8
                        case hyj28kn8 =>
                          intro W hSw
                          go_simp
                          (try with_reducible rfl)
                        try simp only [Act.put, List.setIfInBounds_toArray, List.set_cons_zero, List.set_cons_succ]
                        refine takeJ1 (i := 9) (dst := (some 149)) (v := .agg #[.slice aB xs.length cB, .slice bB ys.length dB]) rfl rfl (by kernel_rfl) (by kernel_rfl) (by kernel_rfl) (by kernel_rfl) (fun _ _ _ h => h) (by rfl) ?hyj28kn9 hHeld1 ?restj28kn9
                        case hyj28kn9 =>
                          intro W hSw
                          go_simp
                          (try with_reducible rfl)
                        try simp only [Act.put, List.setIfInBounds_toArray, List.set_cons_zero, List.set_cons_succ]
                        refine takeJ1 (i := 10) (dst := (some 150)) (v := .int .i64 0) rfl rfl (by kernel_rfl) (by kernel_rfl) (by kernel_rfl) (by kernel_rfl) (fun _ _ _ h => h) (by rfl) ?hyj28kn10 hHeld1 ?restj28kn10
                        case hyj28kn10 =>
                          intro W hSw
                          go_simp
                          (try with_reducible rfl)
                        try simp only [Act.put, List.setIfInBounds_toArray, List.set_cons_zero, List.set_cons_succ]
                        refine readyJ (rs := [11]) (by kernel_rfl) (by simp) ?_
                        refine (AllJ.cons rfl ?op11zk7 AllJ.nil)
                        case op11zk7 =>
                          intro K hK
                          go_simp
                          obtain ⟨Q9, hQ9⟩ : ∃ y, v0x7.heap.size = y := ⟨_, rfl⟩
                          rw [hQ9]
                          have G4x11 := G0x7.box1 hQ9 [.slice none 0 0, .slice none 0 0] 26
                          simp only [List.cons_append, List.nil_append] at G4x11
                          obtain ⟨v4x11, h9_⟩ : ∃ zz, (v0x7.alloc (.cells #[.slice none 0 0, .slice none 0 0] 26)) = zz := ⟨_, rfl⟩
                          rw [h9_] at G4x11 ⊢
                          clear h9_ hQ9
                          refine hK.out _ _ (fun _ => trivial) ⟨G4x11.c 0 0 rfl rfl, G4x11.c 1 0 rfl rfl, G4x11.c 1 1 rfl rfl, G4x11.c 1 2 rfl rfl, G4x11.c 1 3 rfl rfl, G4x11.c 4 0 rfl rfl, G4x11.c 4 1 rfl rfl⟩ (fun hHeld hHeld1 => ?_)
                          clear hK K
                          try simp only [Act.put, List.setIfInBounds_toArray, List.set_cons_zero, List.set_cons_succ]
                          refine readyJ (rs := [12]) (by kernel_rfl) (by simp) ?_
                          refine (AllJ.cons rfl ?op12zk8 AllJ.nil)
                          case op12zk8 =>
                            intro K hK
                            have k0 := G4x11.c 5 0 rfl rfl
                            have kf0 := G4x11.f 5 0 rfl rfl
                            have k1 := G4x11.c 5 1 rfl rfl
                            have kf1 := G4x11.f 5 1 rfl rfl
                            go_simp
                            have G5x12 := G4x11.set 5 rfl (by simp) [.slice aB xs.length cB, .slice bB ys.length dB] rfl
                            simp only [setL, Nat.reduceAdd, List.set_cons_zero, List.set_cons_succ] at G5x12
                            clear k0 kf0 k1 kf1
                            refine hK.out _ _ (fun _ => trivial) ⟨G5x12.c 0 0 rfl rfl, G5x12.c 1 0 rfl rfl, G5x12.c 1 1 rfl rfl, G5x12.c 1 2 rfl rfl, G5x12.c 1 3 rfl rfl, G5x12.c 4 0 rfl rfl, G5x12.c 4 1 rfl rfl⟩ (fun hHeld hHeld1 => ?_)
                            clear hK K
                            try simp only [Act.put, List.setIfInBounds_toArray, List.set_cons_zero, List.set_cons_succ]
                            refine takeJ1 (i := 13) (dst := (some 17)) (v := .int .i64 0) rfl rfl (by kernel_rfl) (by kernel_rfl) (by kernel_rfl) (by kernel_rfl) (fun _ _ _ h => h) (by rfl) ?hyj28kn11 hHeld1 ?restj28kn11
                            case hyj28kn11 =>
                              intro W hSw
                              go_simp
                              (try with_reducible rfl)
                            try simp only [Act.put, List.setIfInBounds_toArray, List.set_cons_zero, List.set_cons_succ]
                            refine doneJ (by kernel_rfl) ?_
                            (try dsimp only)
                            go_wp2
                            go_meet
                            exact ⟨Q9, aB, cB, bB, dB, rfl, rfl, Lib.hid G5x12⟩
                      case op11zk6 =>
                        intro K hK
                        go_simp
                        obtain ⟨Q9, hQ9⟩ : ∃ y, v0.heap.size = y := ⟨_, rfl⟩
                        rw [hQ9]
                        have G0x11 := FD.box1 hQ9 [.slice none 0 0, .slice none 0 0] 26
                        simp only [List.cons_append, List.nil_append] at G0x11
                        obtain ⟨v0x11, h9_⟩ : ∃ zz, (v0.alloc (.cells #[.slice none 0 0, .slice none 0 0] 26)) = zz := ⟨_, rfl⟩
                        rw [h9_] at G0x11 ⊢
                        clear h9_ hQ9
                        refine hK.out _ _ (fun _ => trivial) ⟨G0x11.c 0 0 rfl rfl, G0x11.c 1 0 rfl rfl, G0x11.c 1 1 rfl rfl, G0x11.c 1 2 rfl rfl, G0x11.c 1 3 rfl rfl, G0x11.c 4 0 rfl rfl, G0x11.c 4 1 rfl rfl⟩ (fun hHeld hHeld1 => ?_)
                        clear hK K
                        try simp only [Act.put, List.setIfInBounds_toArray, List.set_cons_zero, List.set_cons_succ]
                        refine readyJ (rs := [7]) (by kernel_rfl) (by simp) ?_
                        refine (AllJ.cons rfl ?op7zk9 AllJ.nil)
                        case op7zk9 =>
                          intro K hK
                          go_simp
                          go_at_call 16
                          refine (HBK.out aC bC cC dC v0x11 (G0x11.li 7 (k := .i64) (xs := S2) rfl HSW.out) (G0x11.li 8 (k := .i64) (xs := ys) rfl HYW.out) (G0x11.lw 0 rfl) (G0x11.lw 1 rfl) (G0x11.li 0 (k := .i64) (xs := OS) rfl HOW.out) (G0x11.li 1 (k := .i64) (xs := List.replicate j 1) rfl HRW.out.1) (G0x11.li 2 (k := .i64) (xs := List.replicate j 0) rfl HRW.out.2) (G0x11.li 3 (k := .i64) (xs := List.replicate j 1) rfl HRW.out.1)).mono ?_
                          rintro e v1x7 ⟨aB, cB, bB, dB, rfl, hf⟩
                          have G1x7 := G0x11.join hf
                          simp only [List.nil_append, List.cons_append] at G1x7
                          clear hf
                          refine hK.out _ _ (fun _ => trivial) ⟨G1x7.c 0 0 rfl rfl, G1x7.c 1 0 rfl rfl, G1x7.c 1 1 rfl rfl, G1x7.c 1 2 rfl rfl, G1x7.c 1 3 rfl rfl, G1x7.c 4 0 rfl rfl, G1x7.c 4 1 rfl rfl⟩ (fun hHeld hHeld1 => ?_)
                          clear hK K
                          try simp only [Act.put, List.setIfInBounds_toArray, List.set_cons_zero, List.set_cons_succ]
                          refine takeJ1 (i := 8) (dst := (some 140)) (v := .tuple #[.agg #[.slice aB xs.length cB, .slice bB ys.length dB], .int .i64 0]) rfl rfl (by kernel_rfl) (by kernel_rfl) (by kernel_rfl) (by kernel_rfl) (fun _ _ _ h => h) (by rfl) ?hyj28kn12 hHeld1 ?restj28kn12
                          case hyj28kn12 =>
                            intro W hSw
                            go_simp
                            (try with_reducible rfl)
                          try simp only [Act.put, List.setIfInBounds_toArray, List.set_cons_zero, List.set_cons_succ]
                          refine takeJ1 (i := 9) (dst := (some 149)) (v := .agg #[.slice aB xs.length cB, .slice bB ys.length dB]) rfl rfl (by kernel_rfl) (by kernel_rfl) (by kernel_rfl) (by kernel_rfl) (fun _ _ _ h => h) (by rfl) ?hyj28kn13 hHeld1 ?restj28kn13
                          case hyj28kn13 =>
                            intro W hSw
                            go_simp
                            (try with_reducible rfl)
                          try simp only [Act.put, List.setIfInBounds_toArray, List.set_cons_zero, List.set_cons_succ]
                          refine takeJ1 (i := 10) (dst := (some 150)) (v := .int .i64 0) rfl rfl (by kernel_rfl) (by kernel_rfl) (by kernel_rfl) (by kernel_rfl) (fun _ _ _ h => h) (by rfl) ?hyj28kn14 hHeld1 ?restj28kn14
                          case hyj28kn14 =>
                            intro W hSw
                            go_simp
                            (try with_reducible rfl)
                          try simp only [Act.put, List.setIfInBounds_toArray, List.set_cons_zero, List.set_cons_succ]
                          refine readyJ (rs := [12]) (by kernel_rfl) (by simp) ?_
                          refine (AllJ.cons rfl ?op12zk10 AllJ.nil)
                          case op12zk10 =>
                            intro K hK
                            have k0 := G1x7.c 5 0 rfl rfl
                            have kf0 := G1x7.f 5 0 rfl rfl
                            have k1 := G1x7.c 5 1 rfl rfl
                            have kf1 := G1x7.f 5 1 rfl rfl
                            go_simp
                            have G5x12 := G1x7.set 5 rfl (by simp) [.slice aB xs.length cB, .slice bB ys.length dB] rfl
                            simp only [setL, Nat.reduceAdd, List.set_cons_zero, List.set_cons_succ] at G5x12
                            clear k0 kf0 k1 kf1
                            refine hK.out _ _ (fun _ => trivial) ⟨G5x12.c 0 0 rfl rfl, G5x12.c 1 0 rfl rfl, G5x12.c 1 1 rfl rfl, G5x12.c 1 2 rfl rfl, G5x12.c 1 3 rfl rfl, G5x12.c 4 0 rfl rfl, G5x12.c 4 1 rfl rfl⟩ (fun hHeld hHeld1 => ?_)
                            clear hK K
                            try simp only [Act.put, List.setIfInBounds_toArray, List.set_cons_zero, List.set_cons_succ]
                            refine takeJ1 (i := 13) (dst := (some 17)) (v := .int .i64 0) rfl rfl (by kernel_rfl) (by kernel_rfl) (by kernel_rfl) (by kernel_rfl) (fun _ _ _ h => h) (by rfl) ?hyj28kn15 hHeld1 ?restj28kn15
                            case hyj28kn15 =>
                              intro W hSw
                              go_simp
                              (try with_reducible rfl)
                            try simp only [Act.put, List.setIfInBounds_toArray, List.set_cons_zero, List.set_cons_succ]
                            refine doneJ (by kernel_rfl) ?_
                            (try dsimp only)
                            go_wp2
                            go_meet
                            exact ⟨Q9, aB, cB, bB, dB, rfl, rfl, Lib.hid G5x12⟩
                    case rest =>
                      obtain ⟨Q9, aB, cB, bB, dB, rfl, rfl, F16⟩ := hcut
                      clear F15
                      obtain ⟨W16, rfl⟩ : ∃ x : World, x = wc := ⟨_, rfl⟩
                      go_upto_region 29 with fail
                      have c0_0 := F16.out.c 0 0 rfl rfl
                      have c0_1 := F16.out.c 0 1 rfl rfl
                      have c0_2 := F16.out.c 0 2 rfl rfl
                      have c0_3 := F16.out.c 0 3 rfl rfl
                      have c0_4 := F16.out.c 0 4 rfl rfl
                      have c0_5 := F16.out.c 0 5 rfl rfl
                      have c0_6 := F16.out.c 0 6 rfl rfl
                      have c0_7 := F16.out.c 0 7 rfl rfl
                      have c0_8 := F16.out.c 0 8 rfl rfl
                      have c0_9 := F16.out.c 0 9 rfl rfl
                      have c0_10 := F16.out.c 0 10 rfl rfl
                      have c5_0 := F16.out.c 5 0 rfl rfl
                      have c5_1 := F16.out.c 5 1 rfl rfl
                      go_wp2_with (first | (go_at_call 11; refine (num11_any _ _).mono ?_; rintro e w' ⟨rfl, rfl⟩) | (go_at_call 22; refine (HEQ.out _ _ _ _ _ (F16.out.li 9 (k := .i64) (xs := xs) rfl HXW.out) (F16.out.li 10 (k := .i64) (xs := ys) rfl HYW.out) (F16.out.lw 0 rfl) (F16.out.lw 1 rfl)).mono ?_; rintro e w7 ⟨rfl, hb⟩; have F17 := Lib.hid (F16.out.next hb); clear hb F16 c0_0 c0_1 c0_2 c0_3 c0_4 c0_5 c0_6 c0_7 c0_8 c0_9 c0_10 c5_0 c5_1) | fail)
                      go_roundw
                      case rel => exact ⟨k + 1, by omega, by go_num, HB.out.trans (F17.out.bel.mono HB.out.size)⟩
                      case measure => simp [intOf]; omega
    · have HB := Lib.hid hbel
      clear hbel h
      have WK := fun W => Lib.hid (wakes11_any W)
      by_cases hlt : k < n
      · have hk15 : ¬ (k : Int) < 4 := by omega
        have hkn : (k : Int) < n := by omega
        go_wp2_with (go_at_call 13; refine ((WK _).out).mono ?_; rintro e w1 ⟨rfl, hb⟩; have HW1 := Lib.hid hb; clear hb)
        go_ret
        exact ⟨rfl, HB.out.trans (HW1.out.mono HB.out.size)⟩
      · obtain rfl : k = n := by omega
        go_wp2_with (go_at_call 13; refine ((WK _).out).mono ?_; rintro e w1 ⟨rfl, hb⟩; have HW1 := Lib.hid hb; clear hb)
        go_ret
        exact ⟨rfl, HB.out.trans (HW1.out.mono HB.out.size)⟩
end Go.Proofs.Ytadlnmckcnfacaa
