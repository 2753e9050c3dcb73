/- The law LoaderSizes, walked. -/
import Derived.Test.YtiejkdnkdmanmaaLoadW
import Derived.Test.YtiejkdnkdmanmaaShapeWA
set_option linter.unusedVariables false
set_option linter.unusedSimpArgs false
namespace Go.Proofs.Ytiejkdnkdmanmaa
open Go.RowKit Go.Rt
theorem lst18 {α : Type} {l : List α} (h : l.length = 18) : ∃ x0 x1 x2 x3 x4 x5 x6 x7 x8 x9 x10 x11 x12 x13 x14 x15 x16 x17, l = [x0, x1, x2, x3, x4, x5, x6, x7, x8, x9, x10, x11, x12, x13, x14, x15, x16, x17] := by
  match l, h with
  | [x0, x1, x2, x3, x4, x5, x6, x7, x8, x9, x10, x11, x12, x13, x14, x15, x16, x17], _ => exact ⟨x0, x1, x2, x3, x4, x5, x6, x7, x8, x9, x10, x11, x12, x13, x14, x15, x16, x17, rfl⟩

theorem own_cap2 {w : World} {base : Nat} {e : TypeId} {a : Option Addr} {n c : Nat} {xs : List Value} (h : w.ownsRow base e 1 (.slice a n c) n xs) : n ≤ c ∧ c ≤ 9223372036854775807 := by
  rcases h.2 with ⟨h1, h2⟩ | ⟨g, cap, cur, h1, _, _, h4, h5, _⟩
  · cases h1
    omega
  · cases h1
    unfold maxLen at h5
    omega
/-- What is known of an element that is played. -/
structure Plays (xs rs : List Int) (s : St) (A E N : Nat) : Prop where
  once : Once (N + 1) xs
  n : N + 1 ≤ 1024
  a : A ≤ N + 1
  e : E < 1048576
  g : GoodS rs s
  l : rs.length ≤ 4096
section
variable {xs rs : List Int} {s : St} {A E N : Nat}
theorem nxG_good (h : GoodS rs s) : GoodS (nxR rs s A N) (nxS rs s A N) ∧ (nxR rs s A N).length ≤ rs.length := by
  unfold nxR nxS
  split
  · exact ⟨tur_good h N, tur_len N rs s N⟩
  · exact ⟨h, Nat.le_refl _⟩
/-- The cursor and the generator behind j examples, one at once. -/
noncomputable def stX (xs rs : List Int) (s : St) (A N j : Nat) : List Int := if j = 0 then xs else nxO xs rs s A N
def stA (A N j : Nat) : Nat := if j = 0 then A else nxA A N + j
def stE (A E N j : Nat) : Nat := if j = 0 then E else nxE A E N
noncomputable def stR (rs : List Int) (s : St) (A N j : Nat) : List Int := if j = 0 then rs else nxR rs s A N
noncomputable def stS (rs : List Int) (s : St) (A N j : Nat) : St := if j = 0 then s else nxS rs s A N
theorem st_may (h : Plays xs rs s A E N) (j : Nat) (hj : nxA A N + j ≤ N + 1) : mayC (stX xs rs s A N j) (stA A N j : Nat) (stE A E N j : Nat) ((N + 1 : Nat) : Int) = true := by
  have hn := h.n
  have he := h.e
  rw [mayC_iff]
  unfold stX stA stE
  split
  · next h0 =>
    have ha := h.a
    exact ⟨by omega, by omega, axesB_once.2 h.once, by omega, by omega, by omega, by omega⟩
  · next h0 =>
    have := nxE_le A E N
    exact ⟨by omega, by omega, axesB_once.2 (nx_once h.once), by omega, by omega, by omega, by omega⟩
theorem st_good (h : Plays xs rs s A E N) (j : Nat) : GoodS (stR rs s A N j) (stS rs s A N j) ∧ (stR rs s A N j).length ≤ 4096 := by
  unfold stR stS
  split
  · exact ⟨h.g, h.l⟩
  · have := nxG_good (A := A) (N := N) h.g
    exact ⟨this.1, Nat.le_trans this.2 h.l⟩
theorem st_not (h : Plays xs rs s A E N) (j : Nat) (hj : nxA A N + j < N + 1) : ¬ (stA A N j = N + 1 ∧ stE A E N j = 1048576) := by
  have he := h.e
  unfold stA stE
  split
  · omega
  · omega
theorem st_next (h : Plays xs rs s A E N) (j : Nat) (hj : nxA A N + j < N + 1) :
    nxO (stX xs rs s A N j) (stR rs s A N j) (stS rs s A N j) (stA A N j) N = nxO xs rs s A N ∧ nxA (stA A N j) N = nxA A N + j ∧ nxE (stA A N j) (stE A E N j) N = nxE A E N ∧ nxR (stR rs s A N j) (stS rs s A N j) (stA A N j) N = nxR rs s A N ∧ nxS (stR rs s A N j) (stS rs s A N j) (stA A N j) N = nxS rs s A N := by
  by_cases h0 : j = 0
  · subst h0
    refine ⟨?_, ?_, ?_, ?_, ?_⟩ <;> simp [stX, stA, stE, stR, stS]
  · have ha : ¬ nxA A N + j = N + 1 := by omega
    unfold stX stA stE stR stS
    simp only [if_neg h0]
    refine ⟨?_, ?_, ?_, ?_, ?_⟩
    · rw [nxO, if_neg ha]
    · rw [nxA, if_neg ha]
    · rw [nxE, if_neg ha]
    · rw [nxR, if_neg ha]
    · rw [nxS, if_neg ha]
theorem st_end (h : Plays xs rs s A E N) (j : Nat) (hj : nxA A N + j < N + 1) : nxEnd (stA A N j) N 1 = nxA A N + j + 1 ∧
    nxI (stX xs rs s A N j) (stR rs s A N j) (stS rs s A N j) (stA A N j) N 1 = [(nxO xs rs s A N)[nxA A N + j]?.getD 0] := by
  obtain ⟨h1, h2, _⟩ := st_next h j hj
  have h3 : nxEnd (stA A N j) N 1 = nxA A N + j + 1 := by unfold nxEnd; rw [h2]; omega
  refine ⟨h3, ?_⟩
  unfold nxI
  rw [h1, h2, h3, show nxA A N + j + 1 - (nxA A N + j) = 1 by omega]
  have hl : nxA A N + j < (nxO xs rs s A N).length := by rw [(nx_once (rs := rs) (s := s) (A := A) h.once).len]; exact hj
  rw [List.drop_eq_getElem_cons hl, List.take_succ_cons, List.take_zero, List.getElem?_eq_getElem hl]
  rfl
theorem st_succ (j : Nat) : stX xs rs s A N (j + 1) = nxO xs rs s A N ∧ stA A N (j + 1) = nxA A N + j + 1 ∧ stE A E N (j + 1) = nxE A E N ∧ stR rs s A N (j + 1) = nxR rs s A N ∧ stS rs s A N (j + 1) = nxS rs s A N := by
  refine ⟨?_, ?_, ?_, ?_, ?_⟩ <;> simp [stX, stA, stE, stR, stS] <;> omega
end
/-- One example at once. -/
theorem one_next (xs rs : List Int) (s : St) (A E N j : Nat) (a a2 : Option Addr) (c c2 : Nat) (w : World) (h : Plays xs rs s A E N) (hj : nxA A N + j < N + 1) (hx : Ints .i64 w w.heap.size a (stX xs rs s A N j)) (hr : Ints .u64 w w.heap.size a2 (stR rs s A N j)) (hc : (stR rs s A N j).length ≤ c2 ∧ c2 ≤ 9223372036854775807) :
    Calls Try.prog 50 #[.agg #[.slice a (stX xs rs s A N j).length c, .int .i64 (stA A N j : Nat), .int .i64 (stE A E N j : Nat)], .agg #[.slice a2 (stR rs s A N j).length c2, .int .u64 ((stS rs s A N j).a : Nat), .int .u64 ((stS rs s A N j).b : Nat), .int .u64 ((stS rs s A N j).c : Nat), .int .u64 ((stS rs s A N j).d : Nat)], .int .i64 ((N + 1 : Nat) : Int), .int .i64 1] w
      (RetNext w [(nxO xs rs s A N)[nxA A N + j]?.getD 0] (stX xs rs s A N (j + 1)) (stA A N (j + 1) : Nat) (stE A E N (j + 1) : Nat) (stR rs s A N (j + 1)) (stS rs s A N (j + 1)) 0) := by
  have hg := st_good h j
  have := lnext_good a a2 c c2 (stX xs rs s A N j) (stR rs s A N j) (stS rs s A N j) (stA A N j) (stE A E N j) N 1 w (st_may h j (by omega)) hg.1 hg.2 hx hr hc (by decide) (by decide) (st_not h j hj)
  obtain ⟨h1, h2, h3, h4, h5⟩ := st_next h j hj
  obtain ⟨h6, h7⟩ := st_end h j hj
  obtain ⟨g1, g2, g3, g4, g5⟩ := st_succ (xs := xs) (rs := rs) (s := s) (A := A) (E := E) (N := N) j
  rw [h1, h3, h4, h5, h6, h7] at this
  rw [g1, g2, g3, g4, g5]
  exact this


set_option maxRecDepth 100000 in
set_option maxHeartbeats 8000000 in
theorem loaderSizes_any (a : Option Addr) (n c : Nat) (w : World) (h : PlaysAt w w.heap.size a n) :
    Calls Try.prog 10 #[.slice a n c] w fun e w' => e = .returned (.bool true) ∧ Below w.heap.size w w' := by
  have hm := h.len
  go_enter Try.func10, Try.ntmps10
  go_wp2_with fail
  go_loopw [3] (fun i wr => ∃ k : Nat, k ≤ n ∧ i = .int .i64 k ∧ Below w.heap.size w wr) (fun i _ => n - (intOf i).toNat)
  case atStart => exact ⟨0, Nat.zero_le _, rfl, Below.refl _ _⟩
  case round =>
    obtain ⟨k, hk, rfl, hbel⟩ := hrel
    obtain ⟨wo, rfl⟩ : ∃ wo : World, wo = wr := ⟨_, rfl⟩
    by_cases hend : k < n ∧ k < 8
    · obtain ⟨hlt, h20⟩ := hend
      obtain ⟨b, off, aX, xs, cX, at_, ep, aR, rs, cR, s, m, z, rfl, ht⟩ := h.at_ k hlt
      replace ht := ht.below hbel
      have hsz := hbel.size
      have hcc := And.intro ht.hc ht.hc2
      have HCC := Lib.hid hcc
      have hok := Lib.hid ht.ok
      have hb1 := ht.hat
      have hb2 := ht.hep
      have hb3 := ht.hn
      have hb4 := ht.hz
      have hxl := ht.ix.len
      have hrl := ht.ir.len
      have hbl := ht.lt
      have HB := Lib.hid hbel
      clear hbel h hcc
      obtain ⟨hb1a, hb1b⟩ := hb1
      obtain ⟨hb2a, hb2b⟩ := hb2
      obtain ⟨hb3a, hb3b⟩ := hb3
      obtain ⟨hb4a, hb4b⟩ := hb4
      have hhv := fun W => Lib.hid (heavy31_any aX aR xs.length cX rs.length cR at_ ep (s.a : Nat) (s.b : Nat) (s.c : Nat) (s.d : Nat) m z W hxl hrl)
      have hmay := fun W (h : Ints .i64 W wo.heap.size aX xs) (hh : wo.heap.size ≤ W.heap.size) => Lib.hid (may30_any aX cX wo.heap.size xs at_ ep m W h hh)
      have hmy := fun W => Lib.hid (may24_any aR rs.length cR s W hok.out hrl)
      cases hv : heavy31 xs.length rs.length m with
      | true =>
        rw [hv] at hhv
        clear hv hmay hmy
        have q0 := ht.cell 0 _ rfl
        have q1 := ht.cell 1 _ rfl
        have q2 := ht.cell 2 _ rfl
        have q3 := ht.cell 3 _ rfl
        have q4 := ht.cell 4 _ rfl
        have q5 := ht.cell 5 _ rfl
        have q6 := ht.cell 6 _ rfl
        have q7 := ht.cell 7 _ rfl
        have q8 := ht.cell 8 _ rfl
        have q9 := ht.cell 9 _ rfl
        simp only [Nat.add_zero] at q0
        have HX := Lib.hid (ht.ix.mono hsz)
        have HR := Lib.hid (ht.ir.mono hsz)
        clear ht
        have F1 := Lib.hid ((Fr.start (w := wo) (I := [(.i64, aX, xs), (.u64, aR, rs)]) (by intro p hp; simp at hp; rcases hp with rfl | rfl; exact HX.out; exact HR.out)).box1 (b := wo.heap.size) rfl [.slice aX xs.length cX, .int .i64 at_, .int .i64 ep, .slice aR rs.length cR, .int .u64 (s.a : Nat), .int .u64 (s.b : Nat), .int .u64 (s.c : Nat), .int .u64 (s.d : Nat), .int .i64 m, .int .i64 z] 75)
        simp only [List.nil_append] at F1
        go_upto_region 5 with fail
        obtain ⟨W1, hW1⟩ : ∃ W1, wo.alloc (.cells #[.slice aX xs.length cX, .int .i64 at_, .int .i64 ep, .slice aR rs.length cR, .int .u64 (s.a : Nat), .int .u64 (s.b : Nat), .int .u64 (s.c : Nat), .int .u64 (s.d : Nat), .int .i64 m, .int .i64 z] 75) = W1 := ⟨_, rfl⟩
        rw [hW1] at F1 ⊢
        clear hW1 q0 q1 q2 q3 q4 q5 q6 q7 q8 q9
        have c0_0 := F1.out.c 0 0 rfl rfl
        have c0_1 := F1.out.c 0 1 rfl rfl
        have c0_2 := F1.out.c 0 2 rfl rfl
        have c0_3 := F1.out.c 0 3 rfl rfl
        have c0_4 := F1.out.c 0 4 rfl rfl
        have c0_5 := F1.out.c 0 5 rfl rfl
        have c0_6 := F1.out.c 0 6 rfl rfl
        have c0_7 := F1.out.c 0 7 rfl rfl
        have c0_8 := F1.out.c 0 8 rfl rfl
        have c0_9 := F1.out.c 0 9 rfl rfl
        go_wp2_with (first | (go_at_call 48; refine ((hhv _).out).mono ?_; rintro e w2 ⟨rfl, hb⟩; have F2 := Lib.hid (F1.out.next hb); clear hb c0_0 c0_1 c0_2 c0_3 c0_4 c0_5 c0_6 c0_7 c0_8 c0_9; have d2x0_0 := F2.out.c 0 0 rfl rfl; have d2x0_1 := F2.out.c 0 1 rfl rfl; have d2x0_2 := F2.out.c 0 2 rfl rfl; have d2x0_3 := F2.out.c 0 3 rfl rfl; have d2x0_4 := F2.out.c 0 4 rfl rfl; have d2x0_5 := F2.out.c 0 5 rfl rfl; have d2x0_6 := F2.out.c 0 6 rfl rfl; have d2x0_7 := F2.out.c 0 7 rfl rfl; have d2x0_8 := F2.out.c 0 8 rfl rfl; have d2x0_9 := F2.out.c 0 9 rfl rfl))
        go_roundw
        case rel => exact ⟨k + 1, by omega, by go_num, HB.out.trans (F2.out.bel.mono HB.out.size)⟩
        case measure => simp [intOf]; omega
      | false =>
        rw [hv] at hhv
        obtain ⟨hv1, hv2, hv3⟩ := heavy31_no hv
        clear hv
        cases hmc : mayC xs at_ ep m with
        | false =>
          rw [hmc] at hmay
          clear hmc hmy
          have q0 := ht.cell 0 _ rfl
          have q1 := ht.cell 1 _ rfl
          have q2 := ht.cell 2 _ rfl
          have q3 := ht.cell 3 _ rfl
          have q4 := ht.cell 4 _ rfl
          have q5 := ht.cell 5 _ rfl
          have q6 := ht.cell 6 _ rfl
          have q7 := ht.cell 7 _ rfl
          have q8 := ht.cell 8 _ rfl
          have q9 := ht.cell 9 _ rfl
          simp only [Nat.add_zero] at q0
          have HX := Lib.hid (ht.ix.mono hsz)
          have HR := Lib.hid (ht.ir.mono hsz)
          clear ht
          have F1 := Lib.hid ((Fr.start (w := wo) (I := [(.i64, aX, xs), (.u64, aR, rs)]) (by intro p hp; simp at hp; rcases hp with rfl | rfl; exact HX.out; exact HR.out)).box1 (b := wo.heap.size) rfl [.slice aX xs.length cX, .int .i64 at_, .int .i64 ep, .slice aR rs.length cR, .int .u64 (s.a : Nat), .int .u64 (s.b : Nat), .int .u64 (s.c : Nat), .int .u64 (s.d : Nat), .int .i64 m, .int .i64 z] 75)
          simp only [List.nil_append] at F1
          go_upto_region 5 with fail
          obtain ⟨W1, hW1⟩ : ∃ W1, wo.alloc (.cells #[.slice aX xs.length cX, .int .i64 at_, .int .i64 ep, .slice aR rs.length cR, .int .u64 (s.a : Nat), .int .u64 (s.b : Nat), .int .u64 (s.c : Nat), .int .u64 (s.d : Nat), .int .i64 m, .int .i64 z] 75) = W1 := ⟨_, rfl⟩
          rw [hW1] at F1 ⊢
          clear hW1 q0 q1 q2 q3 q4 q5 q6 q7 q8 q9
          have c0_0 := F1.out.c 0 0 rfl rfl
          have c0_1 := F1.out.c 0 1 rfl rfl
          have c0_2 := F1.out.c 0 2 rfl rfl
          have c0_3 := F1.out.c 0 3 rfl rfl
          have c0_4 := F1.out.c 0 4 rfl rfl
          have c0_5 := F1.out.c 0 5 rfl rfl
          have c0_6 := F1.out.c 0 6 rfl rfl
          have c0_7 := F1.out.c 0 7 rfl rfl
          have c0_8 := F1.out.c 0 8 rfl rfl
          have c0_9 := F1.out.c 0 9 rfl rfl
          go_wp2_with (first | (go_at_call 48; refine ((hhv _).out).mono ?_; rintro e w2 ⟨rfl, hb⟩; have F2 := Lib.hid (F1.out.next hb); clear hb c0_0 c0_1 c0_2 c0_3 c0_4 c0_5 c0_6 c0_7 c0_8 c0_9; have d2x0_0 := F2.out.c 0 0 rfl rfl; have d2x0_1 := F2.out.c 0 1 rfl rfl; have d2x0_2 := F2.out.c 0 2 rfl rfl; have d2x0_3 := F2.out.c 0 3 rfl rfl; have d2x0_4 := F2.out.c 0 4 rfl rfl; have d2x0_5 := F2.out.c 0 5 rfl rfl; have d2x0_6 := F2.out.c 0 6 rfl rfl; have d2x0_7 := F2.out.c 0 7 rfl rfl; have d2x0_8 := F2.out.c 0 8 rfl rfl; have d2x0_9 := F2.out.c 0 9 rfl rfl) | (go_at_call 49; refine ((hmay _ (F2.out.l 0 rfl) F2.out.hlo).out).mono ?_; rintro e w3 ⟨rfl, hb⟩; have F3 := Lib.hid (F2.out.next hb); clear hb d2x0_0 d2x0_1 d2x0_2 d2x0_3 d2x0_4 d2x0_5 d2x0_6 d2x0_7 d2x0_8 d2x0_9; have d3x0_0 := F3.out.c 0 0 rfl rfl; have d3x0_1 := F3.out.c 0 1 rfl rfl; have d3x0_2 := F3.out.c 0 2 rfl rfl; have d3x0_3 := F3.out.c 0 3 rfl rfl; have d3x0_4 := F3.out.c 0 4 rfl rfl; have d3x0_5 := F3.out.c 0 5 rfl rfl; have d3x0_6 := F3.out.c 0 6 rfl rfl; have d3x0_7 := F3.out.c 0 7 rfl rfl; have d3x0_8 := F3.out.c 0 8 rfl rfl; have d3x0_9 := F3.out.c 0 9 rfl rfl))
          go_roundw
          case rel => exact ⟨k + 1, by omega, by go_num, HB.out.trans (F3.out.bel.mono HB.out.size)⟩
          case measure => simp [intOf]; omega
        | true =>
          rw [hmc] at hmay
          cases hg : goodR rs.length s with
          | false =>
            rw [hg] at hmy
            clear hmc hg
            have q0 := ht.cell 0 _ rfl
            have q1 := ht.cell 1 _ rfl
            have q2 := ht.cell 2 _ rfl
            have q3 := ht.cell 3 _ rfl
            have q4 := ht.cell 4 _ rfl
            have q5 := ht.cell 5 _ rfl
            have q6 := ht.cell 6 _ rfl
            have q7 := ht.cell 7 _ rfl
            have q8 := ht.cell 8 _ rfl
            have q9 := ht.cell 9 _ rfl
            simp only [Nat.add_zero] at q0
            have HX := Lib.hid (ht.ix.mono hsz)
            have HR := Lib.hid (ht.ir.mono hsz)
            clear ht
            have F1 := Lib.hid ((Fr.start (w := wo) (I := [(.i64, aX, xs), (.u64, aR, rs)]) (by intro p hp; simp at hp; rcases hp with rfl | rfl; exact HX.out; exact HR.out)).box1 (b := wo.heap.size) rfl [.slice aX xs.length cX, .int .i64 at_, .int .i64 ep, .slice aR rs.length cR, .int .u64 (s.a : Nat), .int .u64 (s.b : Nat), .int .u64 (s.c : Nat), .int .u64 (s.d : Nat), .int .i64 m, .int .i64 z] 75)
            simp only [List.nil_append] at F1
            go_upto_region 5 with fail
            obtain ⟨W1, hW1⟩ : ∃ W1, wo.alloc (.cells #[.slice aX xs.length cX, .int .i64 at_, .int .i64 ep, .slice aR rs.length cR, .int .u64 (s.a : Nat), .int .u64 (s.b : Nat), .int .u64 (s.c : Nat), .int .u64 (s.d : Nat), .int .i64 m, .int .i64 z] 75) = W1 := ⟨_, rfl⟩
            rw [hW1] at F1 ⊢
            clear hW1 q0 q1 q2 q3 q4 q5 q6 q7 q8 q9
            have c0_0 := F1.out.c 0 0 rfl rfl
            have c0_1 := F1.out.c 0 1 rfl rfl
            have c0_2 := F1.out.c 0 2 rfl rfl
            have c0_3 := F1.out.c 0 3 rfl rfl
            have c0_4 := F1.out.c 0 4 rfl rfl
            have c0_5 := F1.out.c 0 5 rfl rfl
            have c0_6 := F1.out.c 0 6 rfl rfl
            have c0_7 := F1.out.c 0 7 rfl rfl
            have c0_8 := F1.out.c 0 8 rfl rfl
            have c0_9 := F1.out.c 0 9 rfl rfl
            go_wp2_with (first | (go_at_call 48; refine ((hhv _).out).mono ?_; rintro e w2 ⟨rfl, hb⟩; have F2 := Lib.hid (F1.out.next hb); clear hb c0_0 c0_1 c0_2 c0_3 c0_4 c0_5 c0_6 c0_7 c0_8 c0_9; have d2x0_0 := F2.out.c 0 0 rfl rfl; have d2x0_1 := F2.out.c 0 1 rfl rfl; have d2x0_2 := F2.out.c 0 2 rfl rfl; have d2x0_3 := F2.out.c 0 3 rfl rfl; have d2x0_4 := F2.out.c 0 4 rfl rfl; have d2x0_5 := F2.out.c 0 5 rfl rfl; have d2x0_6 := F2.out.c 0 6 rfl rfl; have d2x0_7 := F2.out.c 0 7 rfl rfl; have d2x0_8 := F2.out.c 0 8 rfl rfl; have d2x0_9 := F2.out.c 0 9 rfl rfl) | (go_at_call 49; refine ((hmay _ (F2.out.l 0 rfl) F2.out.hlo).out).mono ?_; rintro e w3 ⟨rfl, hb⟩; have F3 := Lib.hid (F2.out.next hb); clear hb d2x0_0 d2x0_1 d2x0_2 d2x0_3 d2x0_4 d2x0_5 d2x0_6 d2x0_7 d2x0_8 d2x0_9; have d3x0_0 := F3.out.c 0 0 rfl rfl; have d3x0_1 := F3.out.c 0 1 rfl rfl; have d3x0_2 := F3.out.c 0 2 rfl rfl; have d3x0_3 := F3.out.c 0 3 rfl rfl; have d3x0_4 := F3.out.c 0 4 rfl rfl; have d3x0_5 := F3.out.c 0 5 rfl rfl; have d3x0_6 := F3.out.c 0 6 rfl rfl; have d3x0_7 := F3.out.c 0 7 rfl rfl; have d3x0_8 := F3.out.c 0 8 rfl rfl; have d3x0_9 := F3.out.c 0 9 rfl rfl) | (go_at_call 13; refine ((hmy _).out).mono ?_; rintro e w4 ⟨rfl, hb⟩; have F4 := Lib.hid (F3.out.next hb); clear hb d3x0_0 d3x0_1 d3x0_2 d3x0_3 d3x0_4 d3x0_5 d3x0_6 d3x0_7 d3x0_8 d3x0_9; have d4x0_0 := F4.out.c 0 0 rfl rfl; have d4x0_1 := F4.out.c 0 1 rfl rfl; have d4x0_2 := F4.out.c 0 2 rfl rfl; have d4x0_3 := F4.out.c 0 3 rfl rfl; have d4x0_4 := F4.out.c 0 4 rfl rfl; have d4x0_5 := F4.out.c 0 5 rfl rfl; have d4x0_6 := F4.out.c 0 6 rfl rfl; have d4x0_7 := F4.out.c 0 7 rfl rfl; have d4x0_8 := F4.out.c 0 8 rfl rfl; have d4x0_9 := F4.out.c 0 9 rfl rfl))
            go_roundw
            case rel => exact ⟨k + 1, by omega, by go_num, HB.out.trans (F4.out.bel.mono HB.out.size)⟩
            case measure => simp [intOf]; omega
          | true =>
            rw [hg] at hmy
            by_cases he : ep = 1048576
            · have heb : (ep == 1048576) = true := by simp [he]
              clear hmc hg he
              have q0 := ht.cell 0 _ rfl
              have q1 := ht.cell 1 _ rfl
              have q2 := ht.cell 2 _ rfl
              have q3 := ht.cell 3 _ rfl
              have q4 := ht.cell 4 _ rfl
              have q5 := ht.cell 5 _ rfl
              have q6 := ht.cell 6 _ rfl
              have q7 := ht.cell 7 _ rfl
              have q8 := ht.cell 8 _ rfl
              have q9 := ht.cell 9 _ rfl
              simp only [Nat.add_zero] at q0
              have HX := Lib.hid (ht.ix.mono hsz)
              have HR := Lib.hid (ht.ir.mono hsz)
              clear ht
              have F1 := Lib.hid ((Fr.start (w := wo) (I := [(.i64, aX, xs), (.u64, aR, rs)]) (by intro p hp; simp at hp; rcases hp with rfl | rfl; exact HX.out; exact HR.out)).box1 (b := wo.heap.size) rfl [.slice aX xs.length cX, .int .i64 at_, .int .i64 ep, .slice aR rs.length cR, .int .u64 (s.a : Nat), .int .u64 (s.b : Nat), .int .u64 (s.c : Nat), .int .u64 (s.d : Nat), .int .i64 m, .int .i64 z] 75)
              simp only [List.nil_append] at F1
              go_upto_region 5 with fail
              obtain ⟨W1, hW1⟩ : ∃ W1, wo.alloc (.cells #[.slice aX xs.length cX, .int .i64 at_, .int .i64 ep, .slice aR rs.length cR, .int .u64 (s.a : Nat), .int .u64 (s.b : Nat), .int .u64 (s.c : Nat), .int .u64 (s.d : Nat), .int .i64 m, .int .i64 z] 75) = W1 := ⟨_, rfl⟩
              rw [hW1] at F1 ⊢
              clear hW1 q0 q1 q2 q3 q4 q5 q6 q7 q8 q9
              have c0_0 := F1.out.c 0 0 rfl rfl
              have c0_1 := F1.out.c 0 1 rfl rfl
              have c0_2 := F1.out.c 0 2 rfl rfl
              have c0_3 := F1.out.c 0 3 rfl rfl
              have c0_4 := F1.out.c 0 4 rfl rfl
              have c0_5 := F1.out.c 0 5 rfl rfl
              have c0_6 := F1.out.c 0 6 rfl rfl
              have c0_7 := F1.out.c 0 7 rfl rfl
              have c0_8 := F1.out.c 0 8 rfl rfl
              have c0_9 := F1.out.c 0 9 rfl rfl
              go_wp2_with (first | (go_at_call 48; refine ((hhv _).out).mono ?_; rintro e w2 ⟨rfl, hb⟩; have F2 := Lib.hid (F1.out.next hb); clear hb c0_0 c0_1 c0_2 c0_3 c0_4 c0_5 c0_6 c0_7 c0_8 c0_9; have d2x0_0 := F2.out.c 0 0 rfl rfl; have d2x0_1 := F2.out.c 0 1 rfl rfl; have d2x0_2 := F2.out.c 0 2 rfl rfl; have d2x0_3 := F2.out.c 0 3 rfl rfl; have d2x0_4 := F2.out.c 0 4 rfl rfl; have d2x0_5 := F2.out.c 0 5 rfl rfl; have d2x0_6 := F2.out.c 0 6 rfl rfl; have d2x0_7 := F2.out.c 0 7 rfl rfl; have d2x0_8 := F2.out.c 0 8 rfl rfl; have d2x0_9 := F2.out.c 0 9 rfl rfl) | (go_at_call 49; refine ((hmay _ (F2.out.l 0 rfl) F2.out.hlo).out).mono ?_; rintro e w3 ⟨rfl, hb⟩; have F3 := Lib.hid (F2.out.next hb); clear hb d2x0_0 d2x0_1 d2x0_2 d2x0_3 d2x0_4 d2x0_5 d2x0_6 d2x0_7 d2x0_8 d2x0_9; have d3x0_0 := F3.out.c 0 0 rfl rfl; have d3x0_1 := F3.out.c 0 1 rfl rfl; have d3x0_2 := F3.out.c 0 2 rfl rfl; have d3x0_3 := F3.out.c 0 3 rfl rfl; have d3x0_4 := F3.out.c 0 4 rfl rfl; have d3x0_5 := F3.out.c 0 5 rfl rfl; have d3x0_6 := F3.out.c 0 6 rfl rfl; have d3x0_7 := F3.out.c 0 7 rfl rfl; have d3x0_8 := F3.out.c 0 8 rfl rfl; have d3x0_9 := F3.out.c 0 9 rfl rfl) | (go_at_call 13; refine ((hmy _).out).mono ?_; rintro e w4 ⟨rfl, hb⟩; have F4 := Lib.hid (F3.out.next hb); clear hb d3x0_0 d3x0_1 d3x0_2 d3x0_3 d3x0_4 d3x0_5 d3x0_6 d3x0_7 d3x0_8 d3x0_9; have d4x0_0 := F4.out.c 0 0 rfl rfl; have d4x0_1 := F4.out.c 0 1 rfl rfl; have d4x0_2 := F4.out.c 0 2 rfl rfl; have d4x0_3 := F4.out.c 0 3 rfl rfl; have d4x0_4 := F4.out.c 0 4 rfl rfl; have d4x0_5 := F4.out.c 0 5 rfl rfl; have d4x0_6 := F4.out.c 0 6 rfl rfl; have d4x0_7 := F4.out.c 0 7 rfl rfl; have d4x0_8 := F4.out.c 0 8 rfl rfl; have d4x0_9 := F4.out.c 0 9 rfl rfl))
              go_roundw
              case rel => exact ⟨k + 1, by omega, by go_num, HB.out.trans (F4.out.bel.mono HB.out.size)⟩
              case measure => simp [intOf]; omega
            · have heb : (ep == 1048576) = false := by simp [he]
              have hwr := ints_wf64 ht.ir
              obtain ⟨hgs, hgl⟩ := goodS_of hok.out hwr hg
              obtain ⟨m1, m2, max, m3, m4, m5, m6⟩ := mayC_iff.1 hmc
              obtain ⟨N, rfl⟩ : ∃ N : Nat, m = ((N + 1 : Nat) : Int) := ⟨m.toNat - 1, natPart m1⟩
              obtain ⟨A, rfl⟩ : ∃ A : Nat, at_ = A := ⟨at_.toNat, by omega⟩
              obtain ⟨E, rfl⟩ : ∃ E : Nat, ep = E := ⟨ep.toNat, by omega⟩
              have HP := Lib.hid (show Plays xs rs s A E N from ⟨axesB_once.1 max, by omega, by omega, by omega, hgs, hgl⟩)
              clear hmc hg max hgs hwr he
              obtain ⟨m, hmN⟩ : ∃ m, N + 1 = m := ⟨_, rfl⟩
              rw [hmN] at ht hhv hmay m2 hv3 m4 m1
              have HMN := Lib.hid hmN
              have n1 : 1 ≤ m := by omega
              have n2 : m ≤ 1024 := by omega
              have n3 : A ≤ m := by omega
              have n4 : E ≤ 1048576 := by omega
              clear hmN m1 m2 m3 m4 m5 m6 hb1a hb1b hb2a hb2b hb3a hb3b hv3
              obtain ⟨sz, hsz2, hsz3⟩ : ∃ sz : Nat, 1 + withinN z 20 = (sz : Int) ∧ 1 ≤ sz ∧ sz ≤ 20 := by
                have := withinN_bound z 20 (by decide)
                exact ⟨(1 + withinN z 20).toNat, by omega, by omega, by omega⟩
              obtain ⟨hsz3, hsz4⟩ := hsz3
              have hwi := fun W => Lib.hid (within0_any z 20 W ⟨hb4a, hb4b⟩ (by decide) (by decide))
              obtain ⟨v, hv⟩ : ∃ v, withinN z 20 = v := ⟨_, rfl⟩
              rw [hv] at hsz2 hwi
              have hvb : 0 ≤ v ∧ v ≤ 19 := by omega
              obtain ⟨hvb1, hvb2⟩ := hvb
              have HSZ2 := Lib.hid hsz2
              clear hv hsz2
              have q0 := ht.cell 0 _ rfl
              have q1 := ht.cell 1 _ rfl
              have q2 := ht.cell 2 _ rfl
              have q3 := ht.cell 3 _ rfl
              have q4 := ht.cell 4 _ rfl
              have q5 := ht.cell 5 _ rfl
              have q6 := ht.cell 6 _ rfl
              have q7 := ht.cell 7 _ rfl
              have q8 := ht.cell 8 _ rfl
              have q9 := ht.cell 9 _ rfl
              simp only [Nat.add_zero] at q0
              have HX := Lib.hid (ht.ix.mono hsz)
              have HR := Lib.hid (ht.ir.mono hsz)
              clear ht
              have F1 := Lib.hid ((Fr.start (w := wo) (I := [(.i64, aX, xs), (.u64, aR, rs)]) (by intro p hp; simp at hp; rcases hp with rfl | rfl; exact HX.out; exact HR.out)).box1 (b := wo.heap.size) rfl [.slice aX xs.length cX, .int .i64 (A : Int), .int .i64 (E : Int), .slice aR rs.length cR, .int .u64 (s.a : Nat), .int .u64 (s.b : Nat), .int .u64 (s.c : Nat), .int .u64 (s.d : Nat), .int .i64 (m : Int), .int .i64 z] 75)
              simp only [List.nil_append] at F1
              go_upto_region 5 with fail
              obtain ⟨W1, hW1⟩ : ∃ W1, wo.alloc (.cells #[.slice aX xs.length cX, .int .i64 (A : Int), .int .i64 (E : Int), .slice aR rs.length cR, .int .u64 (s.a : Nat), .int .u64 (s.b : Nat), .int .u64 (s.c : Nat), .int .u64 (s.d : Nat), .int .i64 (m : Int), .int .i64 z] 75) = W1 := ⟨_, rfl⟩
              rw [hW1] at F1 ⊢
              clear hW1 q0 q1 q2 q3 q4 q5 q6 q7 q8 q9
              have c0_0 := F1.out.c 0 0 rfl rfl
              have c0_1 := F1.out.c 0 1 rfl rfl
              have c0_2 := F1.out.c 0 2 rfl rfl
              have c0_3 := F1.out.c 0 3 rfl rfl
              have c0_4 := F1.out.c 0 4 rfl rfl
              have c0_5 := F1.out.c 0 5 rfl rfl
              have c0_6 := F1.out.c 0 6 rfl rfl
              have c0_7 := F1.out.c 0 7 rfl rfl
              have c0_8 := F1.out.c 0 8 rfl rfl
              have c0_9 := F1.out.c 0 9 rfl rfl
              go_upto_region 6 with (first | (go_at_call 48; refine ((hhv _).out).mono ?_; rintro e w2 ⟨rfl, hb⟩; have F2 := Lib.hid (F1.out.next hb); clear hb c0_0 c0_1 c0_2 c0_3 c0_4 c0_5 c0_6 c0_7 c0_8 c0_9; have d2x0_0 := F2.out.c 0 0 rfl rfl; have d2x0_1 := F2.out.c 0 1 rfl rfl; have d2x0_2 := F2.out.c 0 2 rfl rfl; have d2x0_3 := F2.out.c 0 3 rfl rfl; have d2x0_4 := F2.out.c 0 4 rfl rfl; have d2x0_5 := F2.out.c 0 5 rfl rfl; have d2x0_6 := F2.out.c 0 6 rfl rfl; have d2x0_7 := F2.out.c 0 7 rfl rfl; have d2x0_8 := F2.out.c 0 8 rfl rfl; have d2x0_9 := F2.out.c 0 9 rfl rfl) | (go_at_call 49; refine ((hmay _ (F2.out.l 0 rfl) F2.out.hlo).out).mono ?_; rintro e w3 ⟨rfl, hb⟩; have F3 := Lib.hid (F2.out.next hb); clear hb d2x0_0 d2x0_1 d2x0_2 d2x0_3 d2x0_4 d2x0_5 d2x0_6 d2x0_7 d2x0_8 d2x0_9; have d3x0_0 := F3.out.c 0 0 rfl rfl; have d3x0_1 := F3.out.c 0 1 rfl rfl; have d3x0_2 := F3.out.c 0 2 rfl rfl; have d3x0_3 := F3.out.c 0 3 rfl rfl; have d3x0_4 := F3.out.c 0 4 rfl rfl; have d3x0_5 := F3.out.c 0 5 rfl rfl; have d3x0_6 := F3.out.c 0 6 rfl rfl; have d3x0_7 := F3.out.c 0 7 rfl rfl; have d3x0_8 := F3.out.c 0 8 rfl rfl; have d3x0_9 := F3.out.c 0 9 rfl rfl) | (go_at_call 13; refine ((hmy _).out).mono ?_; rintro e w4 ⟨rfl, hb⟩; have F4 := Lib.hid (F3.out.next hb); clear hb d3x0_0 d3x0_1 d3x0_2 d3x0_3 d3x0_4 d3x0_5 d3x0_6 d3x0_7 d3x0_8 d3x0_9; have d4x0_0 := F4.out.c 0 0 rfl rfl; have d4x0_1 := F4.out.c 0 1 rfl rfl; have d4x0_2 := F4.out.c 0 2 rfl rfl; have d4x0_3 := F4.out.c 0 3 rfl rfl; have d4x0_4 := F4.out.c 0 4 rfl rfl; have d4x0_5 := F4.out.c 0 5 rfl rfl; have d4x0_6 := F4.out.c 0 6 rfl rfl; have d4x0_7 := F4.out.c 0 7 rfl rfl; have d4x0_8 := F4.out.c 0 8 rfl rfl; have d4x0_9 := F4.out.c 0 9 rfl rfl))
              clear hhv hmay hmy F1 F2 F3
              have eSZ : ∀ [Inhabited Unit], 1 + v = (sz : Int) := by intro _; exact HSZ2.out
              go_upto_region 7 with (go_at_call 30; refine (hwi _).out.mono ?_; rintro e w' ⟨rfl, rfl⟩)
              have hfull := fun W (h1 : Ints .i64 W W.heap.size aX xs) (h2 : Ints .u64 W W.heap.size aR rs) => Lib.hid (lnext_good aX aR cX cR xs rs s A E N sz W (by have := st_may HP.out 0 (by have := nxA_lt (A := A) (N := N) HP.out.a; omega); exact this) HP.out.g HP.out.l h1 h2 HCC.out (by omega) (by omega) (fun h => by have := HP.out.e; omega))
              have hone := fun j a a2 c c2 W (hj : nxA A N + j < N + 1) h1 h2 h3 => Lib.hid (one_next xs rs s A E N j a a2 c c2 W HP.out hj h1 h2 h3)
              have hOX := nx_once (rs := rs) (s := s) (A := A) (N := N) HP.out.once
              have hAX := nxA_lt (A := A) (N := N) HP.out.a
              have hEn : nxEnd A N sz = min (nxA A N + sz) (N + 1) := rfl
              have hSL : nxI xs rs s A N sz = ((nxO xs rs s A N).drop (nxA A N)).take (nxEnd A N sz - nxA A N) := rfl
              have h0 := And.intro (show stX xs rs s A N 0 = xs from rfl) (And.intro (show stA A N 0 = A from rfl) (And.intro (show stE A E N 0 = E from rfl) (And.intro (show stR rs s A N 0 = rs from rfl) (show stS rs s A N 0 = s from rfl))))
              have h1 := fun j => st_succ (xs := xs) (rs := rs) (s := s) (A := A) (E := E) (N := N) j
              have hwR := fun j => wf_of_bounds (st_good HP.out j).1.2.2
              generalize stX xs rs s A N = fX at *
              generalize stA A N = fA at *
              generalize stE A E N = fE at *
              generalize stR rs s A N = fR at *
              generalize stS rs s A N = fS at *
              generalize nxO xs rs s A N = X at *
              generalize nxA A N = A1 at *
              generalize nxE A E N = E1 at *
              generalize nxR rs s A N = R1 at *
              generalize nxS rs s A N = S1 at *
              generalize nxI xs rs s A N sz = SL at *
              generalize nxEnd A N sz = En at *
              rw [HMN.out] at hfull hone hOX hAX hEn
              have HWX := Lib.hid (once_wf hOX (by omega))
              have hXl := hOX.len
              have hL : SL.length = En - A1 := by rw [hSL]; simp; omega
              obtain ⟨L, hLL⟩ : ∃ L, SL.length = L := ⟨_, rfl⟩
              have hL1 : 1 ≤ L := by omega
              have hL2 : L ≤ sz := by omega
              have HG : Hid (∀ j, j < L → SL[j]?.getD 0 = X[A1 + j]?.getD 0) := Lib.hid (fun j hj => by rw [hSL, List.getElem?_take, if_pos (by omega), List.getElem?_drop])
              have HWS : Hid (∀ x ∈ SL, (Lit.int .i64 x).wf = true) := Lib.hid (fun x hx => by rw [hSL] at hx; exact HWX.out x (List.mem_of_mem_drop (List.mem_of_mem_take hx)))
              have hend2 : A1 + L ≤ m := by omega
              have HE2 : Hid (En = A1 + L) := Lib.hid (by omega)
              have HLL := Lib.hid hLL
              have H0 := Lib.hid h0
              have H1 := Lib.hid h1
              have HWR := Lib.hid hwR
              have HFULL := Lib.hid hfull
              have HONE := Lib.hid hone
              have hXl2 := Lib.hid hXl
              clear hOX hSL hEn hL hLL h0 h1 hwR hfull hone hXl
              go_upto_region 8 with (go_at_call 50; refine ((HFULL.out _ (F4.out.lw 0 rfl) (F4.out.lw 1 rfl)).out).mono ?_; rintro e w5 ⟨ai, ci, ao, co, ar, cr, rfl, hfr⟩; rw [HLL.out] at hfr ⊢; have F5 := Lib.hid (F4.out.join hfr); simp only [List.nil_append] at F5; clear hfr F4 d4x0_0 d4x0_1 d4x0_2 d4x0_3 d4x0_4 d4x0_5 d4x0_6 d4x0_7 d4x0_8 d4x0_9)
              obtain ⟨C, hC⟩ : ∃ x, w5.heap.size = x := ⟨_, rfl⟩
              rw [hC]
              have F6 := Lib.hid ((F5.out.box1 (b := C) (by simp [hC]) [.slice ao X.length co, .int .i64 (En : Int), .int .i64 (E1 : Int)] 73).box1 (b := C + 1) (by simp [hC]) [.slice ar R1.length cr, .int .u64 (S1.a : Nat), .int .u64 (S1.b : Nat), .int .u64 (S1.c : Nat), .int .u64 (S1.d : Nat)] 27)
              simp only [List.nil_append, List.cons_append] at F6
              obtain ⟨W6, hW6⟩ : ∃ x, ((w5.alloc (.cells #[.slice ao X.length co, .int .i64 (En : Int), .int .i64 (E1 : Int)] 73)).alloc (.cells #[.slice ar R1.length cr, .int .u64 (S1.a : Nat), .int .u64 (S1.b : Nat), .int .u64 (S1.c : Nat), .int .u64 (S1.d : Nat)] 27)) = x := ⟨_, rfl⟩
              rw [hW6] at F6 ⊢
              clear hW6 hC F5
              obtain ⟨a0, c0, he, hsh⟩ := own_shape (F6.out.r 2 rfl)
              simp only [Value.slice.injEq] at he
              obtain ⟨rfl, _, rfl⟩ := he
              obtain ⟨gi, rfl, _⟩ := hsh.resolve_left (by simp; omega)
              clear hsh
              have c0_0 := F6.out.c 0 0 rfl rfl
              have c0_1 := F6.out.c 0 1 rfl rfl
              have c0_2 := F6.out.c 0 2 rfl rfl
              have c0_3 := F6.out.c 0 3 rfl rfl
              have c0_4 := F6.out.c 0 4 rfl rfl
              have c0_5 := F6.out.c 0 5 rfl rfl
              have c0_6 := F6.out.c 0 6 rfl rfl
              have c0_7 := F6.out.c 0 7 rfl rfl
              have c0_8 := F6.out.c 0 8 rfl rfl
              have c0_9 := F6.out.c 0 9 rfl rfl
              go_upto_region 10 with (go_at_call 51; refine (num31_any _ _).mono ?_; rintro e w' ⟨rfl, rfl⟩)
              have d1 : decide ((L : Int) < 1) = false := by simp; omega
              have d2 : decide (sz < L) = false := by simp; omega
              simp only [d1, d2, Bool.or_false]
              clear d1 d2
              go_upto_region 11 with fail
              clear c0_0 c0_1 c0_2 c0_3 c0_4 c0_5 c0_6 c0_7 c0_8 c0_9
              obtain ⟨D, hD⟩ : ∃ x, W6.heap.size = x := ⟨_, rfl⟩
              rw [hD]
              have F7 := Lib.hid (F6.out.box1 (b := D) (by simp [hD]) [.slice aX xs.length cX, .int .i64 (A : Int), .int .i64 (E : Int)] 73)
              simp only [List.nil_append, List.cons_append] at F7
              obtain ⟨W7, hW7⟩ : ∃ x, (W6.alloc (.cells #[.slice aX xs.length cX, .int .i64 (A : Int), .int .i64 (E : Int)] 73)) = x := ⟨_, rfl⟩
              rw [hW7] at F7 ⊢
              clear hW7 hD F6
              have c0_0 := F7.out.c 0 0 rfl rfl
              have c0_1 := F7.out.c 0 1 rfl rfl
              have c0_2 := F7.out.c 0 2 rfl rfl
              have c0_3 := F7.out.c 0 3 rfl rfl
              have c0_4 := F7.out.c 0 4 rfl rfl
              have c0_5 := F7.out.c 0 5 rfl rfl
              have c0_6 := F7.out.c 0 6 rfl rfl
              have c0_7 := F7.out.c 0 7 rfl rfl
              have c0_8 := F7.out.c 0 8 rfl rfl
              have c0_9 := F7.out.c 0 9 rfl rfl
              go_upto_region 12 with fail
              clear c0_0 c0_1 c0_2 c0_3 c0_4 c0_5 c0_6 c0_7 c0_8 c0_9
              obtain ⟨D2, hD2⟩ : ∃ x, W7.heap.size = x := ⟨_, rfl⟩
              rw [hD2]
              have F8 := Lib.hid (F7.out.box1 (b := D2) (by simp [hD2]) [.slice aR rs.length cR, .int .u64 (s.a : Nat), .int .u64 (s.b : Nat), .int .u64 (s.c : Nat), .int .u64 (s.d : Nat)] 27)
              simp only [List.nil_append, List.cons_append] at F8
              obtain ⟨W8, hW8⟩ : ∃ x, (W7.alloc (.cells #[.slice aR rs.length cR, .int .u64 (s.a : Nat), .int .u64 (s.b : Nat), .int .u64 (s.c : Nat), .int .u64 (s.d : Nat)] 27)) = x := ⟨_, rfl⟩
              rw [hW8] at F8 ⊢
              clear hW8 hD2 F7
              go_wp2
              go_loopw [12] (fun i wr => ∃ j : Nat, j ≤ L ∧ i = .int .i64 j ∧ ∃ ad cd ag cg, Hid ((fR j).length ≤ cg ∧ cg ≤ 9223372036854775807) ∧ Hid (Ints .i64 wr wr.heap.size ad (fX j)) ∧ Hid (Ints .u64 wr wr.heap.size ag (fR j)) ∧ Hid (Fr wo.heap.size wo wr [(wo.heap.size, [.slice aX xs.length cX, .int .i64 (A : Int), .int .i64 (E : Int), .slice aR rs.length cR, .int .u64 (s.a : Nat), .int .u64 (s.b : Nat), .int .u64 (s.c : Nat), .int .u64 (s.d : Nat), .int .i64 (m : Int), .int .i64 z]), (C, [.slice ao X.length co, .int .i64 (En : Int), .int .i64 (E1 : Int)]), (C + 1, [.slice ar R1.length cr, .int .u64 (S1.a : Nat), .int .u64 (S1.b : Nat), .int .u64 (S1.c : Nat), .int .u64 (S1.d : Nat)]), (D, [.slice ad (fX j).length cd, .int .i64 (fA j : Nat), .int .i64 (fE j : Nat)]), (D2, [.slice ag (fR j).length cg, .int .u64 ((fS j).a : Nat), .int .u64 ((fS j).b : Nat), .int .u64 ((fS j).c : Nat), .int .u64 ((fS j).d : Nat)])] [(.i64, aX, xs), (.u64, aR, rs)] [⟨3, .slice ao X.length co, X.length, X.map (Value.int .i64)⟩, ⟨24, .slice ar R1.length cr, R1.length, R1.map (Value.int .u64)⟩, ⟨3, .slice (some ⟨gi, 0, none⟩) L ci, L, SL.map (Value.int .i64)⟩] [])) (fun i _ => L - (intOf i).toNat)
              case atStart =>
                obtain ⟨g1, g2, g3, g4, g5⟩ := H0.out
                refine ⟨0, Nat.zero_le _, rfl, aX, cX, aR, cR, ?_⟩
                rw [g1, g2, g3, g4, g5]
                exact ⟨HCC, Lib.hid (F8.out.lw 0 rfl), Lib.hid (F8.out.lw 1 rfl), F8⟩
              case round =>
                clear F8
                obtain ⟨j, hj, rfl, ad, cd, ag, cg, HCG, HIX, HIR, FJ⟩ := hrel
                by_cases hjl : j < L
                · skip
                  have hcall := HONE.out j ad ag cd cg wr (by omega) HIX.out HIR.out HCG.out
                  have hsu := H1.out j
                  have hwj := HWR.out (j + 1)
                  obtain ⟨X2, hX2⟩ : ∃ x, fX (j + 1) = x := ⟨_, rfl⟩
                  obtain ⟨A2, hA2⟩ : ∃ x, fA (j + 1) = x := ⟨_, rfl⟩
                  obtain ⟨E2, hE2⟩ : ∃ x, fE (j + 1) = x := ⟨_, rfl⟩
                  obtain ⟨R2, hR2⟩ : ∃ x, fR (j + 1) = x := ⟨_, rfl⟩
                  obtain ⟨S2, hS2⟩ : ∃ x, fS (j + 1) = x := ⟨_, rfl⟩
                  rw [hX2, hA2, hE2, hR2, hS2] at hcall hsu
                  rw [hR2] at hwj
                  obtain ⟨u1, u2, u3, u4, u5⟩ := hsu
                  have HSU := Lib.hid (And.intro hX2 (And.intro hA2 (And.intro hE2 (And.intro hR2 hS2))))
                  have HWJ := Lib.hid hwj
                  have HUX := Lib.hid u1
                  have HCALL := Lib.hid hcall
                  clear hX2 hA2 hE2 hR2 hS2 u1 u2 u3 u4 u5 hwj hcall
                  obtain ⟨V, hV⟩ : ∃ V, X[A1 + j]?.getD 0 = V := ⟨_, rfl⟩
                  rw [hV] at HCALL
                  have HV : Hid (SL[j]?.getD 0 = V) := Lib.hid (by rw [HG.out j hjl, hV])
                  clear hV
                  have j0_0 := FJ.out.c 0 0 rfl rfl
                  have j0_1 := FJ.out.c 0 1 rfl rfl
                  have j0_2 := FJ.out.c 0 2 rfl rfl
                  have j0_3 := FJ.out.c 0 3 rfl rfl
                  have j0_4 := FJ.out.c 0 4 rfl rfl
                  have j0_5 := FJ.out.c 0 5 rfl rfl
                  have j0_6 := FJ.out.c 0 6 rfl rfl
                  have j0_7 := FJ.out.c 0 7 rfl rfl
                  have j0_8 := FJ.out.c 0 8 rfl rfl
                  have j0_9 := FJ.out.c 0 9 rfl rfl
                  have j3_0 := FJ.out.c 3 0 rfl rfl
                  have j3_1 := FJ.out.c 3 1 rfl rfl
                  have j3_2 := FJ.out.c 3 2 rfl rfl
                  have j4_0 := FJ.out.c 4 0 rfl rfl
                  have j4_1 := FJ.out.c 4 1 rfl rfl
                  have j4_2 := FJ.out.c 4 2 rfl rfl
                  have j4_3 := FJ.out.c 4 3 rfl rfl
                  have j4_4 := FJ.out.c 4 4 rfl rfl
                  go_upto_region 16 with (go_at_call 50; refine (HCALL.out.out).mono ?_; rintro e w8 ⟨bi, di, bo, do_, br, dr, rfl, hfr⟩; have F8 := Lib.hid (FJ.out.join hfr); simp only [List.cons_append, List.nil_append, List.length_cons, List.length_nil, Nat.zero_add, List.map_cons, List.map_nil] at F8; clear hfr FJ j0_0 j0_1 j0_2 j0_3 j0_4 j0_5 j0_6 j0_7 j0_8 j0_9 j3_0 j3_1 j3_2 j4_0 j4_1 j4_2 j4_3 j4_4)
                  obtain ⟨Q, hQ⟩ : ∃ x, w8.heap.size = x := ⟨_, rfl⟩
                  rw [hQ]
                  have F9 := Lib.hid ((F8.out.box1 (b := Q) (by simp [hQ]) [.slice bo X2.length do_, .int .i64 (A2 : Int), .int .i64 (E2 : Int)] 73).box1 (b := Q + 1) (by simp [hQ]) [.slice br R2.length dr, .int .u64 (S2.a : Nat), .int .u64 (S2.b : Nat), .int .u64 (S2.c : Nat), .int .u64 (S2.d : Nat)] 27)
                  simp only [List.nil_append, List.cons_append] at F9
                  obtain ⟨W9, hW9⟩ : ∃ x, ((w8.alloc (.cells #[.slice bo X2.length do_, .int .i64 (A2 : Int), .int .i64 (E2 : Int)] 73)).alloc (.cells #[.slice br R2.length dr, .int .u64 (S2.a : Nat), .int .u64 (S2.b : Nat), .int .u64 (S2.c : Nat), .int .u64 (S2.d : Nat)] 27)) = x := ⟨_, rfl⟩
                  rw [hW9] at F9 ⊢
                  clear hW9 hQ F8
                  obtain ⟨a0, c0, he, hsh⟩ := own_shape (F9.out.r 5 rfl)
                  simp only [Value.slice.injEq] at he
                  obtain ⟨rfl, _, rfl⟩ := he
                  obtain ⟨gb, rfl, _⟩ := hsh.resolve_left (by simp)
                  clear hsh
                  have HM : Hid ((SL.map (Value.int .i64))[j]? = some (.int .i64 V)) := Lib.hid (by
                    have h1 : j < SL.length := by rw [HLL.out]; exact hjl
                    have h2 := HV.out
                    rw [List.getElem?_eq_getElem h1] at h2
                    rw [List.getElem?_map, List.getElem?_eq_getElem h1]
                    simp only [Option.getD_some] at h2
                    rw [h2]; rfl)
                  have F10 := Lib.hid F9.out.drew
                  refine wp_region_inv (w := W9) 18 (fun _ _ => True) (fun _ W => Fr wo.heap.size wo W [(wo.heap.size, [.slice aX xs.length cX, .int .i64 (A : Int), .int .i64 (E : Int), .slice aR rs.length cR, .int .u64 (s.a : Nat), .int .u64 (s.b : Nat), .int .u64 (s.c : Nat), .int .u64 (s.d : Nat), .int .i64 (m : Int), .int .i64 z]), (C, [.slice ao X.length co, .int .i64 (En : Int), .int .i64 (E1 : Int)]), (C + 1, [.slice ar R1.length cr, .int .u64 (S1.a : Nat), .int .u64 (S1.b : Nat), .int .u64 (S1.c : Nat), .int .u64 (S1.d : Nat)]), (D, [.slice ad (fX j).length cd, .int .i64 (fA j : Nat), .int .i64 (fE j : Nat)]), (D2, [.slice ag (fR j).length cg, .int .u64 ((fS j).a : Nat), .int .u64 ((fS j).b : Nat), .int .u64 ((fS j).c : Nat), .int .u64 ((fS j).d : Nat)]), (Q, [.slice bo X2.length do_, .int .i64 (A2 : Int), .int .i64 (E2 : Int)]), (Q + 1, [.slice br R2.length dr, .int .u64 (S2.a : Nat), .int .u64 (S2.b : Nat), .int .u64 (S2.c : Nat), .int .u64 (S2.d : Nat)])] [(.i64, aX, xs), (.u64, aR, rs)] [⟨3, .slice ao X.length co, X.length, X.map (Value.int .i64)⟩, ⟨24, .slice ar R1.length cr, R1.length, R1.map (Value.int .u64)⟩, ⟨3, .slice (some ⟨gi, 0, none⟩) L ci, L, SL.map (Value.int .i64)⟩, ⟨3, .slice bo X2.length do_, X2.length, X2.map (Value.int .i64)⟩, ⟨24, .slice br R2.length dr, R2.length, R2.map (Value.int .u64)⟩, ⟨3, .slice (some ⟨gb, 0, none⟩) 1 di, 1, [.int .i64 V]⟩] []) [] [(fun u _ => u = .int .i64 0), (fun u _ => u = .int .i64 0), (fun u _ => u = .bool false), (fun u _ => u = .bool false), (fun u _ => u = .slice (some ⟨gb, 0, none⟩) 1 di), (fun u _ => u = .int .i64 1), (fun u _ => u = .bool false), (fun u _ => u = .bool false), (fun u _ => u = .bool false), (fun u _ => u = .slice (some ⟨gb, 0, none⟩) 1 di), (fun u _ => u = .pointer (some ⟨gb, 0, none⟩)), (fun u _ => u = .int .i64 V), (fun u _ => u = .slice (some ⟨gi, 0, none⟩) L ci), (fun u _ => u = .int .i64 (j : Int)), (fun u _ => u = .pointer (some ⟨gi, j, none⟩)), (fun u _ => u = .int .i64 V), (fun u _ => u = .bool false), (fun u _ => u = .bool false)] [some 104, some 105, some 106, some 107, some 108, some 109, some 110, some 111, some 112, some 113, some 114, some 115, some 116, some 117, some 118, some 119, some 120, some 121] (by kernel_rfl) (by kernel_rfl) rfl (by kernel_rfl) (by kernel_rfl) (by decide) (by decide) (fun _ _ => trivial) trivial F10.out (BorneAll.at (.cons (borne_eq _) (.cons (borne_eq _) (.cons (borne_eq _) (.cons (borne_eq _) (.cons (borne_eq _) (.cons (borne_eq _) (.cons (borne_eq _) (.cons (borne_eq _) (.cons (borne_eq _) (.cons (borne_eq _) (.cons (borne_eq _) (.cons (borne_eq _) (.cons (borne_eq _) (.cons (borne_eq _) (.cons (borne_eq _) (.cons (borne_eq _) (.cons (borne_eq _) (.cons (borne_eq _) .nil))))))))))))))))))) (fun vs b hvl hvb => ?_)
                  obtain ⟨x0, x1, x2, x3, x4, x5, x6, x7, x8, x9, x10, x11, x12, x13, x14, x15, x16, x17, rfl⟩ : ∃ x0 x1 x2 x3 x4 x5 x6 x7 x8 x9 x10 x11 x12 x13 x14 x15 x16 x17, vs = [x0, x1, x2, x3, x4, x5, x6, x7, x8, x9, x10, x11, x12, x13, x14, x15, x16, x17] := lst18 hvl
                  clear hvl
                  simp only [putAll, Act.put, List.setIfInBounds_toArray, List.set_cons_zero, List.set_cons_succ] at hvb
                  subst hvb
                  refine ⟨(.snoc (.snoc (.snoc (.snoc (.snoc (.snoc (.snoc (.snoc (.snoc (.snoc (.snoc (.snoc (.snoc (.snoc (.snoc (.snoc (.snoc (.snoc .zero (InvOb.intro (d := (some 104)) (r := fun u _ => u = .int .i64 0) 0 0 rfl rfl rfl (by kernel_rfl) (by kernel_rfl) rfl ?io16x0)) (InvOb.intro (d := (some 105)) (r := fun u _ => u = .int .i64 0) 0 0 rfl rfl rfl (by kernel_rfl) (by kernel_rfl) rfl ?io16x1)) (InvOb.intro (d := (some 106)) (r := fun u _ => u = .bool false) 0 0 rfl rfl rfl (by kernel_rfl) (by kernel_rfl) rfl ?io16x2)) (InvOb.intro (d := (some 107)) (r := fun u _ => u = .bool false) 0 0 rfl rfl rfl (by kernel_rfl) (by kernel_rfl) rfl ?io16x3)) (InvOb.intro (d := (some 108)) (r := fun u _ => u = .slice (some ⟨gb, 0, none⟩) 1 di) 0 0 rfl rfl rfl (by kernel_rfl) (by kernel_rfl) rfl ?io16x4)) (InvOb.intro (d := (some 109)) (r := fun u _ => u = .int .i64 1) 0 0 rfl rfl rfl (by kernel_rfl) (by kernel_rfl) rfl ?io16x5)) (InvOb.intro (d := (some 110)) (r := fun u _ => u = .bool false) 0 0 rfl rfl rfl (by kernel_rfl) (by kernel_rfl) rfl ?io16x6)) (InvOb.intro (d := (some 111)) (r := fun u _ => u = .bool false) 0 0 rfl rfl rfl (by kernel_rfl) (by kernel_rfl) rfl ?io16x7)) (InvOb.intro (d := (some 112)) (r := fun u _ => u = .bool false) 0 0 rfl rfl rfl (by kernel_rfl) (by kernel_rfl) rfl ?io16x8)) (InvOb.intro (d := (some 113)) (r := fun u _ => u = .slice (some ⟨gb, 0, none⟩) 1 di) 0 0 rfl rfl rfl (by kernel_rfl) (by kernel_rfl) rfl ?io16x9)) (InvOb.intro (d := (some 114)) (r := fun u _ => u = .pointer (some ⟨gb, 0, none⟩)) 0 0 rfl rfl rfl (by kernel_rfl) (by kernel_rfl) rfl ?io16x10)) (InvOb.intro (d := (some 115)) (r := fun u _ => u = .int .i64 V) 0 0 rfl rfl rfl (by kernel_rfl) (by kernel_rfl) rfl ?io16x11)) (InvOb.intro (d := (some 116)) (r := fun u _ => u = .slice (some ⟨gi, 0, none⟩) L ci) 0 0 rfl rfl rfl (by kernel_rfl) (by kernel_rfl) rfl ?io16x12)) (InvOb.intro (d := (some 117)) (r := fun u _ => u = .int .i64 (j : Int)) 0 0 rfl rfl rfl (by kernel_rfl) (by kernel_rfl) rfl ?io16x13)) (InvOb.intro (d := (some 118)) (r := fun u _ => u = .pointer (some ⟨gi, j, none⟩)) 0 0 rfl rfl rfl (by kernel_rfl) (by kernel_rfl) rfl ?io16x14)) (InvOb.intro (d := (some 119)) (r := fun u _ => u = .int .i64 V) 0 0 rfl rfl rfl (by kernel_rfl) (by kernel_rfl) rfl ?io16x15)) (InvOb.intro (d := (some 120)) (r := fun u _ => u = .bool false) 0 0 rfl rfl rfl (by kernel_rfl) (by kernel_rfl) rfl ?io16x16)) (InvOb.intro (d := (some 121)) (r := fun u _ => u = .bool false) 0 0 rfl rfl rfl (by kernel_rfl) (by kernel_rfl) rfl ?io16x17)), ?iend16⟩
                  case io16x0 =>
                    intro k1 w1 hk0 hk1 hb1 hS hd KK hK
                    clear hd
                    simp only [Act.put, List.setIfInBounds_toArray, List.set_cons_zero, List.set_cons_succ] at hK
                    go_simp
                    first | exact hK.out _ _ trivial hS rfl | (have hk := hK.out _ _ trivial hS rfl; revert hk; go_simp)
                  case io16x1 =>
                    intro k1 w1 hk0 hk1 hb1 hS hd KK hK
                    have d0 : x0 = .int .i64 0 := hd 0 (by kernel_rfl)
                    clear hd
                    subst d0
                    simp only [Act.put, List.setIfInBounds_toArray, List.set_cons_zero, List.set_cons_succ] at hK
                    go_simp
                    (go_at_call 51; refine (num31_any _ _).mono ?_; rintro e w' ⟨rfl, rfl⟩)
                    (try go_wp2_with fail)
                    first | exact hK.out _ _ trivial hS rfl | (have hk := hK.out _ _ trivial hS rfl; revert hk; go_simp)
                  case io16x2 =>
                    intro k1 w1 hk0 hk1 hb1 hS hd KK hK
                    have d1 : x1 = .int .i64 0 := hd 1 (by kernel_rfl)
                    clear hd
                    subst d1
                    simp only [Act.put, List.setIfInBounds_toArray, List.set_cons_zero, List.set_cons_succ] at hK
                    go_simp
                    first | exact hK.out _ _ trivial hS rfl | (have hk := hK.out _ _ trivial hS rfl; revert hk; go_simp)
                  case io16x3 =>
                    intro k1 w1 hk0 hk1 hb1 hS hd KK hK
                    have d1 : x1 = .int .i64 0 := hd 1 (by kernel_rfl)
                    have d2 : x2 = .bool false := hd 2 (by kernel_rfl)
                    clear hd
                    subst d1
                    subst d2
                    simp only [Act.put, List.setIfInBounds_toArray, List.set_cons_zero, List.set_cons_succ] at hK
                    go_simp
                    first | exact hK.out _ _ trivial hS rfl | (have hk := hK.out _ _ trivial hS rfl; revert hk; go_simp)
                  case io16x4 =>
                    intro k1 w1 hk0 hk1 hb1 hS hd KK hK
                    have d3 : x3 = .bool false := hd 3 (by kernel_rfl)
                    clear hd
                    subst d3
                    simp only [Act.put, List.setIfInBounds_toArray, List.set_cons_zero, List.set_cons_succ] at hK
                    go_simp
                    first | exact hK.out _ _ trivial hS rfl | (have hk := hK.out _ _ trivial hS rfl; revert hk; go_simp)
                  case io16x5 =>
                    intro k1 w1 hk0 hk1 hb1 hS hd KK hK
                    have d3 : x3 = .bool false := hd 3 (by kernel_rfl)
                    have d4 : x4 = .slice (some ⟨gb, 0, none⟩) 1 di := hd 4 (by kernel_rfl)
                    clear hd
                    subst d3
                    subst d4
                    simp only [Act.put, List.setIfInBounds_toArray, List.set_cons_zero, List.set_cons_succ] at hK
                    go_simp
                    first | exact hK.out _ _ trivial hS rfl | (have hk := hK.out _ _ trivial hS rfl; revert hk; go_simp)
                  case io16x6 =>
                    intro k1 w1 hk0 hk1 hb1 hS hd KK hK
                    have d3 : x3 = .bool false := hd 3 (by kernel_rfl)
                    have d5 : x5 = .int .i64 1 := hd 5 (by kernel_rfl)
                    clear hd
                    subst d3
                    subst d5
                    simp only [Act.put, List.setIfInBounds_toArray, List.set_cons_zero, List.set_cons_succ] at hK
                    go_simp
                    first | exact hK.out _ _ trivial hS rfl | (have hk := hK.out _ _ trivial hS rfl; revert hk; go_simp)
                  case io16x7 =>
                    intro k1 w1 hk0 hk1 hb1 hS hd KK hK
                    have d3 : x3 = .bool false := hd 3 (by kernel_rfl)
                    have d6 : x6 = .bool false := hd 6 (by kernel_rfl)
                    clear hd
                    subst d3
                    subst d6
                    simp only [Act.put, List.setIfInBounds_toArray, List.set_cons_zero, List.set_cons_succ] at hK
                    go_simp
                    first | exact hK.out _ _ trivial hS rfl | (have hk := hK.out _ _ trivial hS rfl; revert hk; go_simp)
                  case io16x8 =>
                    intro k1 w1 hk0 hk1 hb1 hS hd KK hK
                    have d3 : x3 = .bool false := hd 3 (by kernel_rfl)
                    have d7 : x7 = .bool false := hd 7 (by kernel_rfl)
                    clear hd
                    subst d3
                    subst d7
                    simp only [Act.put, List.setIfInBounds_toArray, List.set_cons_zero, List.set_cons_succ] at hK
                    go_simp
                    first | exact hK.out _ _ trivial hS rfl | (have hk := hK.out _ _ trivial hS rfl; revert hk; go_simp)
                  case io16x9 =>
                    intro k1 w1 hk0 hk1 hb1 hS hd KK hK
                    have d8 : x8 = .bool false := hd 8 (by kernel_rfl)
                    clear hd
                    subst d8
                    simp only [Act.put, List.setIfInBounds_toArray, List.set_cons_zero, List.set_cons_succ] at hK
                    go_simp
                    first | exact hK.out _ _ trivial hS rfl | (have hk := hK.out _ _ trivial hS rfl; revert hk; go_simp)
                  case io16x10 =>
                    intro k1 w1 hk0 hk1 hb1 hS hd KK hK
                    have d8 : x8 = .bool false := hd 8 (by kernel_rfl)
                    have d9 : x9 = .slice (some ⟨gb, 0, none⟩) 1 di := hd 9 (by kernel_rfl)
                    clear hd
                    subst d8
                    subst d9
                    simp only [Act.put, List.setIfInBounds_toArray, List.set_cons_zero, List.set_cons_succ] at hK
                    go_simp
                    first | exact hK.out _ _ trivial hS rfl | (have hk := hK.out _ _ trivial hS rfl; revert hk; go_simp)
                  case io16x11 =>
                    intro k1 w1 hk0 hk1 hb1 hS hd KK hK
                    have d8 : x8 = .bool false := hd 8 (by kernel_rfl)
                    have d10 : x10 = .pointer (some ⟨gb, 0, none⟩) := hd 10 (by kernel_rfl)
                    clear hd
                    subst d8
                    subst d10
                    obtain ⟨hl1, hl2⟩ := hS.rc 5 0 rfl rfl
                    simp only [Act.put, List.setIfInBounds_toArray, List.set_cons_zero, List.set_cons_succ] at hK
                    go_simp
                    first | exact hK.out _ _ trivial hS rfl | (have hk := hK.out _ _ trivial hS rfl; revert hk; go_simp)
                  case io16x12 =>
                    intro k1 w1 hk0 hk1 hb1 hS hd KK hK
                    have d8 : x8 = .bool false := hd 8 (by kernel_rfl)
                    clear hd
                    subst d8
                    simp only [Act.put, List.setIfInBounds_toArray, List.set_cons_zero, List.set_cons_succ] at hK
                    go_simp
                    first | exact hK.out _ _ trivial hS rfl | (have hk := hK.out _ _ trivial hS rfl; revert hk; go_simp)
                  case io16x13 =>
                    intro k1 w1 hk0 hk1 hb1 hS hd KK hK
                    have d8 : x8 = .bool false := hd 8 (by kernel_rfl)
                    clear hd
                    subst d8
                    simp only [Act.put, List.setIfInBounds_toArray, List.set_cons_zero, List.set_cons_succ] at hK
                    go_simp
                    first | exact hK.out _ _ trivial hS rfl | (have hk := hK.out _ _ trivial hS rfl; revert hk; go_simp)
                  case io16x14 =>
                    intro k1 w1 hk0 hk1 hb1 hS hd KK hK
                    have d8 : x8 = .bool false := hd 8 (by kernel_rfl)
                    have d12 : x12 = .slice (some ⟨gi, 0, none⟩) L ci := hd 12 (by kernel_rfl)
                    have d13 : x13 = .int .i64 (j : Int) := hd 13 (by kernel_rfl)
                    clear hd
                    subst d8
                    subst d12
                    subst d13
                    simp only [Act.put, List.setIfInBounds_toArray, List.set_cons_zero, List.set_cons_succ] at hK
                    go_simp
                    first | exact hK.out _ _ trivial hS rfl | (have hk := hK.out _ _ trivial hS rfl; revert hk; go_simp)
                  case io16x15 =>
                    intro k1 w1 hk0 hk1 hb1 hS hd KK hK
                    have d8 : x8 = .bool false := hd 8 (by kernel_rfl)
                    have d14 : x14 = .pointer (some ⟨gi, j, none⟩) := hd 14 (by kernel_rfl)
                    clear hd
                    subst d8
                    subst d14
                    obtain ⟨hl1, hl2⟩ := hS.rc 2 j rfl HM.out
                    simp only [Act.put, List.setIfInBounds_toArray, List.set_cons_zero, List.set_cons_succ] at hK
                    go_simp
                    first | exact hK.out _ _ trivial hS rfl | (have hk := hK.out _ _ trivial hS rfl; revert hk; go_simp)
                  case io16x16 =>
                    intro k1 w1 hk0 hk1 hb1 hS hd KK hK
                    have d8 : x8 = .bool false := hd 8 (by kernel_rfl)
                    have d11 : x11 = .int .i64 V := hd 11 (by kernel_rfl)
                    have d15 : x15 = .int .i64 V := hd 15 (by kernel_rfl)
                    clear hd
                    subst d8
                    subst d11
                    subst d15
                    simp only [Act.put, List.setIfInBounds_toArray, List.set_cons_zero, List.set_cons_succ] at hK
                    go_simp
                    first | exact hK.out _ _ trivial hS rfl | (have hk := hK.out _ _ trivial hS rfl; revert hk; go_simp)
                  case io16x17 =>
                    intro k1 w1 hk0 hk1 hb1 hS hd KK hK
                    have d8 : x8 = .bool false := hd 8 (by kernel_rfl)
                    have d16 : x16 = .bool false := hd 16 (by kernel_rfl)
                    clear hd
                    subst d8
                    subst d16
                    simp only [Act.put, List.setIfInBounds_toArray, List.set_cons_zero, List.set_cons_succ] at hK
                    go_simp
                    first | exact hK.out _ _ trivial hS rfl | (have hk := hK.out _ _ trivial hS rfl; revert hk; go_simp)
                  case iend16 =>
                    intro w1 hb1 hS hR
                    have d0 : x0 = .int .i64 0 := hR 0 (by decide)
                    have d1 : x1 = .int .i64 0 := hR 1 (by decide)
                    have d2 : x2 = .bool false := hR 2 (by decide)
                    have d3 : x3 = .bool false := hR 3 (by decide)
                    have d4 : x4 = .slice (some ⟨gb, 0, none⟩) 1 di := hR 4 (by decide)
                    have d5 : x5 = .int .i64 1 := hR 5 (by decide)
                    have d6 : x6 = .bool false := hR 6 (by decide)
                    have d7 : x7 = .bool false := hR 7 (by decide)
                    have d8 : x8 = .bool false := hR 8 (by decide)
                    have d9 : x9 = .slice (some ⟨gb, 0, none⟩) 1 di := hR 9 (by decide)
                    have d10 : x10 = .pointer (some ⟨gb, 0, none⟩) := hR 10 (by decide)
                    have d11 : x11 = .int .i64 V := hR 11 (by decide)
                    have d12 : x12 = .slice (some ⟨gi, 0, none⟩) L ci := hR 12 (by decide)
                    have d13 : x13 = .int .i64 (j : Int) := hR 13 (by decide)
                    have d14 : x14 = .pointer (some ⟨gi, j, none⟩) := hR 14 (by decide)
                    have d15 : x15 = .int .i64 V := hR 15 (by decide)
                    have d16 : x16 = .bool false := hR 16 (by decide)
                    have d17 : x17 = .bool false := hR 17 (by decide)
                    clear hR
                    subst d0
                    subst d1
                    subst d2
                    subst d3
                    subst d4
                    subst d5
                    subst d6
                    subst d7
                    subst d8
                    subst d9
                    subst d10
                    subst d11
                    subst d12
                    subst d13
                    subst d14
                    subst d15
                    subst d16
                    subst d17
                    try simp only [putAll, Act.put, List.setIfInBounds_toArray, List.set_cons_zero, List.set_cons_succ]
                    have F11 := Lib.hid (show Fr wo.heap.size wo w1 [(wo.heap.size, [.slice aX xs.length cX, .int .i64 (A : Int), .int .i64 (E : Int), .slice aR rs.length cR, .int .u64 (s.a : Nat), .int .u64 (s.b : Nat), .int .u64 (s.c : Nat), .int .u64 (s.d : Nat), .int .i64 (m : Int), .int .i64 z]), (C, [.slice ao X.length co, .int .i64 (En : Int), .int .i64 (E1 : Int)]), (C + 1, [.slice ar R1.length cr, .int .u64 (S1.a : Nat), .int .u64 (S1.b : Nat), .int .u64 (S1.c : Nat), .int .u64 (S1.d : Nat)]), (D, [.slice ad (fX j).length cd, .int .i64 (fA j : Nat), .int .i64 (fE j : Nat)]), (D2, [.slice ag (fR j).length cg, .int .u64 ((fS j).a : Nat), .int .u64 ((fS j).b : Nat), .int .u64 ((fS j).c : Nat), .int .u64 ((fS j).d : Nat)]), (Q, [.slice bo X2.length do_, .int .i64 (A2 : Int), .int .i64 (E2 : Int)]), (Q + 1, [.slice br R2.length dr, .int .u64 (S2.a : Nat), .int .u64 (S2.b : Nat), .int .u64 (S2.c : Nat), .int .u64 (S2.d : Nat)])] [(.i64, aX, xs), (.u64, aR, rs)] [⟨3, .slice ao X.length co, X.length, X.map (Value.int .i64)⟩, ⟨24, .slice ar R1.length cr, R1.length, R1.map (Value.int .u64)⟩, ⟨3, .slice (some ⟨gi, 0, none⟩) L ci, L, SL.map (Value.int .i64)⟩, ⟨3, .slice bo X2.length do_, X2.length, X2.map (Value.int .i64)⟩, ⟨24, .slice br R2.length dr, R2.length, R2.map (Value.int .u64)⟩, ⟨3, .slice (some ⟨gb, 0, none⟩) 1 di, 1, [.int .i64 V]⟩] [] from hS)
                    clear hS hb1 F9 F10
                    have c3_0 := F11.out.c 3 0 rfl rfl
                    have c3_1 := F11.out.c 3 1 rfl rfl
                    have c3_2 := F11.out.c 3 2 rfl rfl
                    have c5_0 := F11.out.c 5 0 rfl rfl
                    have c5_1 := F11.out.c 5 1 rfl rfl
                    have c5_2 := F11.out.c 5 2 rfl rfl
                    have cf3_0 := F11.out.f 3 0 rfl rfl
                    have cf3_1 := F11.out.f 3 1 rfl rfl
                    have cf3_2 := F11.out.f 3 2 rfl rfl
                    go_upto_region 19 with fail
                    have F12 := Lib.hid (F11.out.set 3 rfl (by simp) [.slice bo X2.length do_, .int .i64 (A2 : Int), .int .i64 (E2 : Int)] rfl)
                    simp only [List.set_cons_zero, List.set_cons_succ] at F12
                    obtain ⟨W12, hW12⟩ : ∃ W12, setL w1 D 0 [.slice bo X2.length do_, .int .i64 (A2 : Int), .int .i64 (E2 : Int)] = W12 := ⟨_, rfl⟩
                    rw [hW12] at F12
                    simp only [setL, Nat.reduceAdd] at hW12
                    rw [hW12]
                    clear hW12 F11 c3_0 c3_1 c3_2 c5_0 c5_1 c5_2 cf3_0 cf3_1 cf3_2
                    have c4_0 := F12.out.c 4 0 rfl rfl
                    have c4_1 := F12.out.c 4 1 rfl rfl
                    have c4_2 := F12.out.c 4 2 rfl rfl
                    have c4_3 := F12.out.c 4 3 rfl rfl
                    have c4_4 := F12.out.c 4 4 rfl rfl
                    have c6_0 := F12.out.c 6 0 rfl rfl
                    have c6_1 := F12.out.c 6 1 rfl rfl
                    have c6_2 := F12.out.c 6 2 rfl rfl
                    have c6_3 := F12.out.c 6 3 rfl rfl
                    have c6_4 := F12.out.c 6 4 rfl rfl
                    have cf4_0 := F12.out.f 4 0 rfl rfl
                    have cf4_1 := F12.out.f 4 1 rfl rfl
                    have cf4_2 := F12.out.f 4 2 rfl rfl
                    have cf4_3 := F12.out.f 4 3 rfl rfl
                    have cf4_4 := F12.out.f 4 4 rfl rfl
                    go_wp2
                    have F13 := Lib.hid (F12.out.set 4 rfl (by simp) [.slice br R2.length dr, .int .u64 (S2.a : Nat), .int .u64 (S2.b : Nat), .int .u64 (S2.c : Nat), .int .u64 (S2.d : Nat)] rfl)
                    simp only [List.set_cons_zero, List.set_cons_succ] at F13
                    obtain ⟨W13, hW13⟩ : ∃ W13, setL W12 D2 0 [.slice br R2.length dr, .int .u64 (S2.a : Nat), .int .u64 (S2.b : Nat), .int .u64 (S2.c : Nat), .int .u64 (S2.d : Nat)] = W13 := ⟨_, rfl⟩
                    rw [hW13] at F13
                    simp only [setL, Nat.reduceAdd] at hW13
                    rw [hW13]
                    clear hW13 F12 c4_0 c4_1 c4_2 c4_3 c4_4 c6_0 c6_1 c6_2 c6_3 c6_4 cf4_0 cf4_1 cf4_2 cf4_3 cf4_4
                    have hwx := F13.out.li 3 (k := .i64) (xs := X2) rfl (by rw [HUX.out]; exact HWX.out)
                    have hwr := F13.out.li 4 (k := .u64) (xs := R2) rfl HWJ.out
                    have hcap := own_cap2 (F13.out.r 4 rfl)
                    have HCAP := Lib.hid hcap
                    have HWXX := Lib.hid hwx
                    have HWRR := Lib.hid hwr
                    clear hcap hwx hwr
                    go_roundw
                    case rel =>
                      obtain ⟨g1, g2, g3, g4, g5⟩ := HSU.out
                      refine ⟨j + 1, by omega, by go_num, bo, do_, br, dr, ?_⟩
                      rw [g1, g2, g3, g4, g5]
                      exact ⟨HCAP, HWXX, HWRR, Lib.hid (F13.out.less (by simp) (List.Sublist.refl _) (by simp) (List.Sublist.refl _))⟩
                    case measure => simp [intOf]; omega
                · obtain rfl : j = L := by omega
                  have hx : fX j = X ∧ fA j = En ∧ fE j = E1 ∧ fR j = R1 ∧ fS j = S1 := by
                    obtain ⟨i, rfl⟩ : ∃ i, j = i + 1 := ⟨j - 1, by omega⟩
                    obtain ⟨g1, g2, g3, g4, g5⟩ := H1.out i
                    exact ⟨g1, by rw [g2, HE2.out]; omega, g3, g4, g5⟩
                  obtain ⟨g1, g2, g3, g4, g5⟩ := hx
                  have hwr := HWR.out j
                  rw [g4] at hwr
                  have HWR1 := Lib.hid hwr
                  rw [g1, g2, g3, g4, g5] at FJ
                  rw [g1] at HIX
                  rw [g4] at HIR
                  clear g1 g2 g3 g4 g5 hwr
                  have e0_0 := FJ.out.c 0 0 rfl rfl
                  have e0_1 := FJ.out.c 0 1 rfl rfl
                  have e0_2 := FJ.out.c 0 2 rfl rfl
                  have e0_3 := FJ.out.c 0 3 rfl rfl
                  have e0_4 := FJ.out.c 0 4 rfl rfl
                  have e0_5 := FJ.out.c 0 5 rfl rfl
                  have e0_6 := FJ.out.c 0 6 rfl rfl
                  have e0_7 := FJ.out.c 0 7 rfl rfl
                  have e0_8 := FJ.out.c 0 8 rfl rfl
                  have e0_9 := FJ.out.c 0 9 rfl rfl
                  have e1_0 := FJ.out.c 1 0 rfl rfl
                  have e1_1 := FJ.out.c 1 1 rfl rfl
                  have e1_2 := FJ.out.c 1 2 rfl rfl
                  have e2_0 := FJ.out.c 2 0 rfl rfl
                  have e2_1 := FJ.out.c 2 1 rfl rfl
                  have e2_2 := FJ.out.c 2 2 rfl rfl
                  have e2_3 := FJ.out.c 2 3 rfl rfl
                  have e2_4 := FJ.out.c 2 4 rfl rfl
                  have e3_0 := FJ.out.c 3 0 rfl rfl
                  have e3_1 := FJ.out.c 3 1 rfl rfl
                  have e3_2 := FJ.out.c 3 2 rfl rfl
                  have e4_0 := FJ.out.c 4 0 rfl rfl
                  have e4_1 := FJ.out.c 4 1 rfl rfl
                  have e4_2 := FJ.out.c 4 2 rfl rfl
                  have e4_3 := FJ.out.c 4 3 rfl rfl
                  have e4_4 := FJ.out.c 4 4 rfl rfl
                  go_wp2_with (first | (go_at_call 52; (with_reducible refine (eqCursor_same ao ad co cd X (En : Int) (E1 : Int) _ (FJ.out.li 0 (k := .i64) (xs := X) rfl HWX.out) HIX.out).mono ?_); rintro e w8 ⟨rfl, hb⟩; have FG := Lib.hid (FJ.out.next hb); have HIR2 := Lib.hid ((HIR.out.below hb (Nat.le_refl _)).mono hb.size); clear hb e0_0 e0_1 e0_2 e0_3 e0_4 e0_5 e0_6 e0_7 e0_8 e0_9 e1_0 e1_1 e1_2 e2_0 e2_1 e2_2 e2_3 e2_4 e3_0 e3_1 e3_2 e4_0 e4_1 e4_2 e4_3 e4_4; have g0_0 := FG.out.c 0 0 rfl rfl; have g0_1 := FG.out.c 0 1 rfl rfl; have g0_2 := FG.out.c 0 2 rfl rfl; have g0_3 := FG.out.c 0 3 rfl rfl; have g0_4 := FG.out.c 0 4 rfl rfl; have g0_5 := FG.out.c 0 5 rfl rfl; have g0_6 := FG.out.c 0 6 rfl rfl; have g0_7 := FG.out.c 0 7 rfl rfl; have g0_8 := FG.out.c 0 8 rfl rfl; have g0_9 := FG.out.c 0 9 rfl rfl; have g1_0 := FG.out.c 1 0 rfl rfl; have g1_1 := FG.out.c 1 1 rfl rfl; have g1_2 := FG.out.c 1 2 rfl rfl; have g2_0 := FG.out.c 2 0 rfl rfl; have g2_1 := FG.out.c 2 1 rfl rfl; have g2_2 := FG.out.c 2 2 rfl rfl; have g2_3 := FG.out.c 2 3 rfl rfl; have g2_4 := FG.out.c 2 4 rfl rfl; have g3_0 := FG.out.c 3 0 rfl rfl; have g3_1 := FG.out.c 3 1 rfl rfl; have g3_2 := FG.out.c 3 2 rfl rfl; have g4_0 := FG.out.c 4 0 rfl rfl; have g4_1 := FG.out.c 4 1 rfl rfl; have g4_2 := FG.out.c 4 2 rfl rfl; have g4_3 := FG.out.c 4 3 rfl rfl; have g4_4 := FG.out.c 4 4 rfl rfl) | (go_at_call 18; (with_reducible refine (eqRand_same31 ar ag cr cg R1 S1 _ (FG.out.li 1 (k := .u64) (xs := R1) rfl HWR1.out) HIR2.out).mono ?_); rintro e w9 ⟨rfl, hb⟩; have FH := Lib.hid (FG.out.next hb); clear hb g0_0 g0_1 g0_2 g0_3 g0_4 g0_5 g0_6 g0_7 g0_8 g0_9 g1_0 g1_1 g1_2 g2_0 g2_1 g2_2 g2_3 g2_4 g3_0 g3_1 g3_2 g4_0 g4_1 g4_2 g4_3 g4_4))
                  go_roundw
                  case rel => exact ⟨k + 1, by omega, by go_num, HB.out.trans (FH.out.bel.mono HB.out.size)⟩
                  case measure => simp [intOf]; omega
    · have HB := Lib.hid hbel
      clear hbel h
      have WK := fun W => Lib.hid (wakes31_any W)
      by_cases hlt : k < n
      · have hk15 : ¬ (k : Int) < 8 := by omega
        have hkn : (k : Int) < n := by omega
        go_wp2_with (go_at_call 53; refine ((WK _).out).mono ?_; rintro e w1 ⟨rfl, hb⟩; have HW1 := Lib.hid hb; clear hb)
        go_ret
        exact ⟨rfl, HB.out.trans (HW1.out.mono HB.out.size)⟩
      · obtain rfl : k = n := by omega
        go_wp2_with (go_at_call 53; refine ((WK _).out).mono ?_; rintro e w1 ⟨rfl, hb⟩; have HW1 := Lib.hid hb; clear hb)
        go_ret
        exact ⟨rfl, HB.out.trans (HW1.out.mono HB.out.size)⟩
end Go.Proofs.Ytiejkdnkdmanmaa
