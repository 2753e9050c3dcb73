/- The law LoaderEpochs, walked. -/
import Derived.Test.YtiejkdnkdmanmaaLoadW
import Derived.Test.YtiejkdnkdmanmaaShapeWA
import Derived.Test.YtiejkdnkdmanmaaFrJ
import Derived.Test.YtiejkdnkdmanmaaPartsL
set_option linter.unusedVariables false
set_option linter.unusedSimpArgs false
namespace Go.Proofs.Ytiejkdnkdmanmaa
open Go.RowKit Go.Rt
theorem lst19 {α : Type} {l : List α} (h : l.length = 19) : ∃ x0 x1 x2 x3 x4 x5 x6 x7 x8 x9 x10 x11 x12 x13 x14 x15 x16 x17 x18, l = [x0, x1, x2, x3, x4, x5, x6, x7, x8, x9, x10, x11, x12, x13, x14, x15, x16, x17, x18] := by
  match l, h with
  | [x0, x1, x2, x3, x4, x5, x6, x7, x8, x9, x10, x11, x12, x13, x14, x15, x16, x17, x18], _ => exact ⟨x0, x1, x2, x3, x4, x5, x6, x7, x8, x9, x10, x11, x12, x13, x14, x15, x16, x17, x18, rfl⟩
theorem lst22 {α : Type} {l : List α} (h : l.length = 22) : ∃ x0 x1 x2 x3 x4 x5 x6 x7 x8 x9 x10 x11 x12 x13 x14 x15 x16 x17 x18 x19 x20 x21, l = [x0, x1, x2, x3, x4, x5, x6, x7, x8, x9, x10, x11, x12, x13, x14, x15, x16, x17, x18, x19, x20, x21] := by
  match l, h with
  | [x0, x1, x2, x3, x4, x5, x6, x7, x8, x9, x10, x11, x12, x13, x14, x15, x16, x17, x18, x19, x20, x21], _ => exact ⟨x0, x1, x2, x3, x4, x5, x6, x7, x8, x9, x10, x11, x12, x13, x14, x15, x16, x17, x18, x19, x20, x21, rfl⟩

theorem own_cap2 {w : World} {base : Nat} {e : TypeId} {a : Option Addr} {n c : Nat} {xs : List Value} (h : w.ownsRow base e 1 (.slice a n c) n xs) : n ≤ c ∧ c ≤ 9223372036854775807 := by
  rcases h.2 with ⟨h1, h2⟩ | ⟨g, cap, cur, h1, _, _, h4, h5, _⟩
  · cases h1
    omega
  · cases h1
    unfold maxLen at h5
    omega
/-- What is known of an element that is played. -/
structure Plays (xs rs : List Int) (s : St) (A E N : Nat) : Prop where
  once : Once (N + 1) xs
  n : N + 1 ≤ 1024
  a : A ≤ N + 1
  e : E < 1048576
  g : GoodS rs s
  l : rs.length ≤ 4096
section
variable {xs rs : List Int} {s : St} {A E N : Nat}
theorem nxG_good (h : GoodS rs s) : GoodS (nxR rs s A N) (nxS rs s A N) ∧ (nxR rs s A N).length ≤ rs.length := by
  unfold nxR nxS
  split
  · exact ⟨tur_good h N, tur_len N rs s N⟩
  · exact ⟨h, Nat.le_refl _⟩
/-- The cursor and the generator behind j examples, one at once. -/
noncomputable def stX (xs rs : List Int) (s : St) (A N j : Nat) : List Int := if j = 0 then xs else nxO xs rs s A N
def stA (A N j : Nat) : Nat := if j = 0 then A else nxA A N + j
def stE (A E N j : Nat) : Nat := if j = 0 then E else nxE A E N
noncomputable def stR (rs : List Int) (s : St) (A N j : Nat) : List Int := if j = 0 then rs else nxR rs s A N
noncomputable def stS (rs : List Int) (s : St) (A N j : Nat) : St := if j = 0 then s else nxS rs s A N
theorem st_may (h : Plays xs rs s A E N) (j : Nat) (hj : nxA A N + j ≤ N + 1) : mayC (stX xs rs s A N j) (stA A N j : Nat) (stE A E N j : Nat) ((N + 1 : Nat) : Int) = true := by
  have hn := h.n
  have he := h.e
  rw [mayC_iff]
  unfold stX stA stE
  split
  · next h0 =>
    have ha := h.a
    exact ⟨by omega, by omega, axesB_once.2 h.once, by omega, by omega, by omega, by omega⟩
  · next h0 =>
    have := nxE_le A E N
    exact ⟨by omega, by omega, axesB_once.2 (nx_once h.once), by omega, by omega, by omega, by omega⟩
theorem st_good (h : Plays xs rs s A E N) (j : Nat) : GoodS (stR rs s A N j) (stS rs s A N j) ∧ (stR rs s A N j).length ≤ 4096 := by
  unfold stR stS
  split
  · exact ⟨h.g, h.l⟩
  · have := nxG_good (A := A) (N := N) h.g
    exact ⟨this.1, Nat.le_trans this.2 h.l⟩
theorem st_not (h : Plays xs rs s A E N) (j : Nat) (hj : nxA A N + j < N + 1) : ¬ (stA A N j = N + 1 ∧ stE A E N j = 1048576) := by
  have he := h.e
  unfold stA stE
  split
  · omega
  · omega
theorem st_next (h : Plays xs rs s A E N) (j : Nat) (hj : nxA A N + j < N + 1) :
    nxO (stX xs rs s A N j) (stR rs s A N j) (stS rs s A N j) (stA A N j) N = nxO xs rs s A N ∧ nxA (stA A N j) N = nxA A N + j ∧ nxE (stA A N j) (stE A E N j) N = nxE A E N ∧ nxR (stR rs s A N j) (stS rs s A N j) (stA A N j) N = nxR rs s A N ∧ nxS (stR rs s A N j) (stS rs s A N j) (stA A N j) N = nxS rs s A N := by
  by_cases h0 : j = 0
  · subst h0
    refine ⟨?_, ?_, ?_, ?_, ?_⟩ <;> simp [stX, stA, stE, stR, stS]
  · have ha : ¬ nxA A N + j = N + 1 := by omega
    unfold stX stA stE stR stS
    simp only [if_neg h0]
    refine ⟨?_, ?_, ?_, ?_, ?_⟩
    · rw [nxO, if_neg ha]
    · rw [nxA, if_neg ha]
    · rw [nxE, if_neg ha]
    · rw [nxR, if_neg ha]
    · rw [nxS, if_neg ha]
theorem st_pos {p : Nat} (hp : 0 < p) : stX xs rs s A N p = nxO xs rs s A N ∧ stA A N p = nxA A N + p ∧ stE A E N p = nxE A E N ∧ stR rs s A N p = nxR rs s A N ∧ stS rs s A N p = nxS rs s A N := by
  have h : ¬ p = 0 := by omega
  refine ⟨?_, ?_, ?_, ?_, ?_⟩ <;> simp [stX, stA, stE, stR, stS, h]
/-- The next epoch's beginning. -/
theorem plays_next (h : Plays xs rs s A E N) (he : nxE A E N < 1048576) : Plays (nxO xs rs s A N) (nxR rs s A N) (nxS rs s A N) (N + 1) (nxE A E N) N :=
  ⟨nx_once h.once, h.n, Nat.le_refl _, he, (nxG_good h.g).1, Nat.le_trans (nxG_good h.g).2 h.l⟩
end
/-- A batch at place p of an epoch. -/
theorem ep_next (xs rs : List Int) (s : St) (A E N p sz : Nat) (a a2 : Option Addr) (c c2 : Nat) (w : World) (h : Plays xs rs s A E N) (h0 : nxA A N = 0) (hp : p < N + 1) (h1 : 1 ≤ sz) (h2 : sz ≤ 20) (hx : Ints .i64 w w.heap.size a (stX xs rs s A N p)) (hr : Ints .u64 w w.heap.size a2 (stR rs s A N p)) (hc : (stR rs s A N p).length ≤ c2 ∧ c2 ≤ 9223372036854775807) :
    Calls Try.prog 50 #[.agg #[.slice a (stX xs rs s A N p).length c, .int .i64 (stA A N p : Nat), .int .i64 (stE A E N p : Nat)], .agg #[.slice a2 (stR rs s A N p).length c2, .int .u64 ((stS rs s A N p).a : Nat), .int .u64 ((stS rs s A N p).b : Nat), .int .u64 ((stS rs s A N p).c : Nat), .int .u64 ((stS rs s A N p).d : Nat)], .int .i64 ((N + 1 : Nat) : Int), .int .i64 (sz : Int)] w
      (RetNext w (((nxO xs rs s A N).drop p).take (min (p + sz) (N + 1) - p)) (nxO xs rs s A N) (min (p + sz) (N + 1) : Nat) (nxE A E N : Nat) (nxR rs s A N) (nxS rs s A N) 0) := by
  have hg := st_good h p
  have := lnext_good a a2 c c2 (stX xs rs s A N p) (stR rs s A N p) (stS rs s A N p) (stA A N p) (stE A E N p) N sz w (st_may h p (by omega)) hg.1 hg.2 hx hr hc h1 (by omega) (st_not h p (by omega))
  obtain ⟨k1, k2, k3, k4, k5⟩ := st_next h p (by omega)
  rw [h0, Nat.zero_add] at k2
  have k6 : nxEnd (stA A N p) N sz = min (p + sz) (N + 1) := by unfold nxEnd; rw [k2]
  have k7 : nxI (stX xs rs s A N p) (stR rs s A N p) (stS rs s A N p) (stA A N p) N sz = ((nxO xs rs s A N).drop p).take (min (p + sz) (N + 1) - p) := by unfold nxI; rw [k6, k1, k2]
  rw [k1, k3, k4, k5, k6, k7] at this
  exact this
/-- 'append(l, row...)' of numbers. -/
theorem appendL {w : World} {ops : Array Oper} {rest : List Oper} {o : Oper} {a : Act} {Q : Exit → Act → World → Prop}
    (base : Nat) (v : Value) (k : Nat) (xs vals : List Int) (ad : Addr) (m c : Nat) (s x : Operand) (hg : o.guard = none) (ho : o.op = .call { callee := .builtin .append, args := #[s, x], argTypes := #[46, 46] })
    (hs : a.eval s = v) (hown : w.ownsRow base 3 1 v k (xs.map (Value.int .i64))) (hx : a.eval x = .slice (some ad) m c) (hm : vals.length = m) (hc : ∀ j u, (vals.map (Value.int .i64))[j]? = some u → w.cell? (ad.add j) = some u) (b1 : k + m ≤ 1000000) (hb : base ≤ w.heap.size)
    (hK : ∀ v' w', w'.ownsRow base 3 1 v' (k + m) ((xs ++ vals).map (Value.int .i64)) → w.grownBy w' v.ownBlock → (v'.ownBlock = v.ownBlock ∨ v'.ownBlock = some w.heap.size) → wpList Try.prog ops Q rest (a.put o.dst v') w') : wpList Try.prog ops Q (o :: rest) a w := by
  obtain ⟨i, hi, hz0, hz1, hz2⟩ := info_parts infoInt
  refine wpList_append_own_at w hg s x _ ho base 3 i (.int .i64 0) 1 8 Try.underlying46 hi hz0 hz1 hz2 rfl (by decide) v k _ hs hown ad m c (vals.map (Value.int .i64)) hx (by simp [hm]) hc (by intro u hu; obtain ⟨y, _, rfl⟩ := List.mem_map.1 hu; rfl) (by unfold maxLen; omega) (by omega) hb ?_
  intro v' w' hown' hgrow _ hob
  exact hK v' w' (by rw [List.map_append]; exact hown') hgrow hob
/-- Values of the twin's drawn region. -/
def IsCur (base : Nat) (xs : List Int) (at_ ep : Int) (u : Value) (W : World) : Prop := ∃ a c, u = .agg #[.slice a xs.length c, .int .i64 at_, .int .i64 ep] ∧ W.ownsRow base 3 1 (.slice a xs.length c) xs.length (xs.map (Value.int .i64))
def IsGnE (base : Nat) (rs : List Int) (s : St) (u : Value) (W : World) : Prop := ∃ a c, u = .agg #[.slice a rs.length c, .int .u64 (s.a : Nat), .int .u64 (s.b : Nat), .int .u64 (s.c : Nat), .int .u64 (s.d : Nat)] ∧ W.ownsRow base 24 1 (.slice a rs.length c) rs.length (rs.map (Value.int .u64))
def IsNxt (base n : Nat) (ids xs : List Int) (at_ ep : Int) (rs : List Int) (s : St) (u : Value) (W : World) : Prop :=
  ∃ ai ci ao co ar cr, u = .tuple #[.slice ai n ci, .agg #[.slice ao xs.length co, .int .i64 at_, .int .i64 ep], .agg #[.slice ar rs.length cr, .int .u64 (s.a : Nat), .int .u64 (s.b : Nat), .int .u64 (s.c : Nat), .int .u64 (s.d : Nat)], .int .i64 0] ∧ W.ownsRow base 3 1 (.slice ai n ci) n (ids.map (Value.int .i64))
def IsC (n : Nat) (at_ ep : Int) (u : Value) (W : World) : Prop := ∃ a c, u = .agg #[.slice a n c, .int .i64 at_, .int .i64 ep]
def IsG (n : Nat) (s : St) (u : Value) (W : World) : Prop := ∃ a c, u = .agg #[.slice a n c, .int .u64 (s.a : Nat), .int .u64 (s.b : Nat), .int .u64 (s.c : Nat), .int .u64 (s.d : Nat)]
theorem isCur_carries (base : Nat) (xs : List Int) (at_ ep : Int) : Carries (IsCur base xs at_ ep) := fun u w w' ⟨a, c, h1, h2⟩ hb => ⟨a, c, h1, own_below h2 hb (Nat.le_refl _)⟩
theorem isGnE_carries (base : Nat) (rs : List Int) (s : St) : Carries (IsGnE base rs s) := fun u w w' ⟨a, c, h1, h2⟩ hb => ⟨a, c, h1, own_below h2 hb (Nat.le_refl _)⟩
theorem isNxt_carries (base n : Nat) (ids xs : List Int) (at_ ep : Int) (rs : List Int) (s : St) : Carries (IsNxt base n ids xs at_ ep rs s) := fun u w w' ⟨ai, ci, ao, co, ar, cr, h1, h2⟩ hb => ⟨ai, ci, ao, co, ar, cr, h1, own_below h2 hb (Nat.le_refl _)⟩
theorem isC_carries (n : Nat) (at_ ep : Int) : Carries (IsC n at_ ep) := fun _ _ _ h _ => h
theorem isG_carries (n : Nat) (s : St) : Carries (IsG n s) := fun _ _ _ h _ => h
/-- A row of one's own, read. -/
theorem own_read {k : IntKind} {W : World} {base : Nat} {e : TypeId} {a : Option Addr} {c : Nat} {xs : List Int} (h : W.ownsRow base e 1 (.slice a xs.length c) xs.length (xs.map (Value.int k))) (hwf : ∀ x ∈ xs, (Lit.int k x).wf = true) : Ints k W W.heap.size a xs := by
  obtain ⟨a2, c2, he, hi⟩ := own_ints h hwf
  simp only [Value.slice.injEq] at he
  rw [he.1]
  exact hi
/-- A slice's length. -/
def slLen : Value → Nat | .slice _ n _ => n | _ => 0
theorem slLen_slice (a : Option Addr) (n c : Nat) : slLen (.slice a n c) = n := rfl
theorem cell_of_row {W : World} {base : Nat} {e : TypeId} {g n c : Nat} {xs : List Value} (h : W.ownsRow base e 1 (.slice (some ⟨g, 0, none⟩) n c) n xs) : ∀ j u, xs[j]? = some u → W.cell? ((⟨g, 0, none⟩ : Addr).add j) = some u := h.cells rfl


set_option maxRecDepth 100000 in
set_option maxHeartbeats 8000000 in
theorem loaderEpochs_any (a : Option Addr) (n c : Nat) (w : World) (h : PlaysAt w w.heap.size a n) :
    Calls Try.prog 11 #[.slice a n c] w fun e w' => e = .returned (.bool true) ∧ Below w.heap.size w w' := by
  have hm := h.len
  go_enter Try.func11, Try.ntmps11
  go_wp2_with fail
  go_loopw [3] (fun i wr => ∃ k : Nat, k ≤ n ∧ i = .int .i64 k ∧ Below w.heap.size w wr) (fun i _ => n - (intOf i).toNat)
  case atStart => exact ⟨0, Nat.zero_le _, rfl, Below.refl _ _⟩
  case round =>
    obtain ⟨k, hk, rfl, hbel⟩ := hrel
    obtain ⟨wo, rfl⟩ : ∃ wo : World, wo = wr := ⟨_, rfl⟩
    by_cases hend : k < n ∧ k < 8
    · obtain ⟨hlt, h20⟩ := hend
      obtain ⟨b, off, aX, xs, cX, at_, ep, aR, rs, cR, s, m, z, rfl, ht⟩ := h.at_ k hlt
      replace ht := ht.below hbel
      have hsz := hbel.size
      have hcc := And.intro ht.hc ht.hc2
      have HCC := Lib.hid hcc
      have hok := Lib.hid ht.ok
      have hb3 := ht.hn
      have hb4 := ht.hz
      have hxl := ht.ix.len
      have hrl := ht.ir.len
      have hbl := ht.lt
      have HB := Lib.hid hbel
      clear hbel h hcc
      obtain ⟨hb3a, hb3b⟩ := hb3
      obtain ⟨hb4a, hb4b⟩ := hb4
      have hhv := fun W => Lib.hid (heavy31_any aX aR xs.length cX rs.length cR at_ ep (s.a : Nat) (s.b : Nat) (s.c : Nat) (s.d : Nat) m z W hxl hrl)
      have hmy := fun W => Lib.hid (may24_any aR rs.length cR s W hok.out hrl)
      cases hv : heavy31 xs.length rs.length m with
      | true =>
        rw [hv] at hhv
        clear hv hmy
        have q0 := ht.cell 0 _ rfl
        have q1 := ht.cell 1 _ rfl
        have q2 := ht.cell 2 _ rfl
        have q3 := ht.cell 3 _ rfl
        have q4 := ht.cell 4 _ rfl
        have q5 := ht.cell 5 _ rfl
        have q6 := ht.cell 6 _ rfl
        have q7 := ht.cell 7 _ rfl
        have q8 := ht.cell 8 _ rfl
        have q9 := ht.cell 9 _ rfl
        simp only [Nat.add_zero] at q0
        have HR := Lib.hid (ht.ir.mono hsz)
        clear ht
        have F1 := Lib.hid ((Fr.start (w := wo) (I := [(.u64, aR, rs)]) (by intro p hp; simp at hp; subst hp; exact HR.out)).box1 (b := wo.heap.size) rfl [.slice aX xs.length cX, .int .i64 at_, .int .i64 ep, .slice aR rs.length cR, .int .u64 (s.a : Nat), .int .u64 (s.b : Nat), .int .u64 (s.c : Nat), .int .u64 (s.d : Nat), .int .i64 m, .int .i64 z] 75)
        simp only [List.nil_append] at F1
        go_upto_region 5 with fail
        obtain ⟨W1, hW1⟩ : ∃ W1, wo.alloc (.cells #[.slice aX xs.length cX, .int .i64 at_, .int .i64 ep, .slice aR rs.length cR, .int .u64 (s.a : Nat), .int .u64 (s.b : Nat), .int .u64 (s.c : Nat), .int .u64 (s.d : Nat), .int .i64 m, .int .i64 z] 75) = W1 := ⟨_, rfl⟩
        rw [hW1] at F1 ⊢
        clear hW1 q0 q1 q2 q3 q4 q5 q6 q7 q8 q9
        have c0_0 := F1.out.c 0 0 rfl rfl
        have c0_1 := F1.out.c 0 1 rfl rfl
        have c0_2 := F1.out.c 0 2 rfl rfl
        have c0_3 := F1.out.c 0 3 rfl rfl
        have c0_4 := F1.out.c 0 4 rfl rfl
        have c0_5 := F1.out.c 0 5 rfl rfl
        have c0_6 := F1.out.c 0 6 rfl rfl
        have c0_7 := F1.out.c 0 7 rfl rfl
        have c0_8 := F1.out.c 0 8 rfl rfl
        have c0_9 := F1.out.c 0 9 rfl rfl
        go_wp2_with (first | (go_at_call 48; refine ((hhv _).out).mono ?_; rintro e w2 ⟨rfl, hb⟩; have F2 := Lib.hid (F1.out.next hb); clear hb c0_0 c0_1 c0_2 c0_3 c0_4 c0_5 c0_6 c0_7 c0_8 c0_9; have d2x0_0 := F2.out.c 0 0 rfl rfl; have d2x0_1 := F2.out.c 0 1 rfl rfl; have d2x0_2 := F2.out.c 0 2 rfl rfl; have d2x0_3 := F2.out.c 0 3 rfl rfl; have d2x0_4 := F2.out.c 0 4 rfl rfl; have d2x0_5 := F2.out.c 0 5 rfl rfl; have d2x0_6 := F2.out.c 0 6 rfl rfl; have d2x0_7 := F2.out.c 0 7 rfl rfl; have d2x0_8 := F2.out.c 0 8 rfl rfl; have d2x0_9 := F2.out.c 0 9 rfl rfl))
        go_roundw
        case rel => exact ⟨k + 1, by omega, by go_num, HB.out.trans (F2.out.bel.mono HB.out.size)⟩
        case measure => simp [intOf]; omega
      | false =>
        rw [hv] at hhv
        obtain ⟨hv1, hv2, hv3⟩ := heavy31_no hv
        clear hv
        cases hg : goodR rs.length s with
        | false =>
          rw [hg] at hmy
          clear hg
          have q0 := ht.cell 0 _ rfl
          have q1 := ht.cell 1 _ rfl
          have q2 := ht.cell 2 _ rfl
          have q3 := ht.cell 3 _ rfl
          have q4 := ht.cell 4 _ rfl
          have q5 := ht.cell 5 _ rfl
          have q6 := ht.cell 6 _ rfl
          have q7 := ht.cell 7 _ rfl
          have q8 := ht.cell 8 _ rfl
          have q9 := ht.cell 9 _ rfl
          simp only [Nat.add_zero] at q0
          have HR := Lib.hid (ht.ir.mono hsz)
          clear ht
          have F1 := Lib.hid ((Fr.start (w := wo) (I := [(.u64, aR, rs)]) (by intro p hp; simp at hp; subst hp; exact HR.out)).box1 (b := wo.heap.size) rfl [.slice aX xs.length cX, .int .i64 at_, .int .i64 ep, .slice aR rs.length cR, .int .u64 (s.a : Nat), .int .u64 (s.b : Nat), .int .u64 (s.c : Nat), .int .u64 (s.d : Nat), .int .i64 m, .int .i64 z] 75)
          simp only [List.nil_append] at F1
          go_upto_region 5 with fail
          obtain ⟨W1, hW1⟩ : ∃ W1, wo.alloc (.cells #[.slice aX xs.length cX, .int .i64 at_, .int .i64 ep, .slice aR rs.length cR, .int .u64 (s.a : Nat), .int .u64 (s.b : Nat), .int .u64 (s.c : Nat), .int .u64 (s.d : Nat), .int .i64 m, .int .i64 z] 75) = W1 := ⟨_, rfl⟩
          rw [hW1] at F1 ⊢
          clear hW1 q0 q1 q2 q3 q4 q5 q6 q7 q8 q9
          have c0_0 := F1.out.c 0 0 rfl rfl
          have c0_1 := F1.out.c 0 1 rfl rfl
          have c0_2 := F1.out.c 0 2 rfl rfl
          have c0_3 := F1.out.c 0 3 rfl rfl
          have c0_4 := F1.out.c 0 4 rfl rfl
          have c0_5 := F1.out.c 0 5 rfl rfl
          have c0_6 := F1.out.c 0 6 rfl rfl
          have c0_7 := F1.out.c 0 7 rfl rfl
          have c0_8 := F1.out.c 0 8 rfl rfl
          have c0_9 := F1.out.c 0 9 rfl rfl
          go_wp2_with (first | (go_at_call 48; refine ((hhv _).out).mono ?_; rintro e w2 ⟨rfl, hb⟩; have F2 := Lib.hid (F1.out.next hb); clear hb c0_0 c0_1 c0_2 c0_3 c0_4 c0_5 c0_6 c0_7 c0_8 c0_9; have d2x0_0 := F2.out.c 0 0 rfl rfl; have d2x0_1 := F2.out.c 0 1 rfl rfl; have d2x0_2 := F2.out.c 0 2 rfl rfl; have d2x0_3 := F2.out.c 0 3 rfl rfl; have d2x0_4 := F2.out.c 0 4 rfl rfl; have d2x0_5 := F2.out.c 0 5 rfl rfl; have d2x0_6 := F2.out.c 0 6 rfl rfl; have d2x0_7 := F2.out.c 0 7 rfl rfl; have d2x0_8 := F2.out.c 0 8 rfl rfl; have d2x0_9 := F2.out.c 0 9 rfl rfl) | (go_at_call 13; refine ((hmy _).out).mono ?_; rintro e w3 ⟨rfl, hb⟩; have F3 := Lib.hid (F2.out.next hb); clear hb d2x0_0 d2x0_1 d2x0_2 d2x0_3 d2x0_4 d2x0_5 d2x0_6 d2x0_7 d2x0_8 d2x0_9; have d3x0_0 := F3.out.c 0 0 rfl rfl; have d3x0_1 := F3.out.c 0 1 rfl rfl; have d3x0_2 := F3.out.c 0 2 rfl rfl; have d3x0_3 := F3.out.c 0 3 rfl rfl; have d3x0_4 := F3.out.c 0 4 rfl rfl; have d3x0_5 := F3.out.c 0 5 rfl rfl; have d3x0_6 := F3.out.c 0 6 rfl rfl; have d3x0_7 := F3.out.c 0 7 rfl rfl; have d3x0_8 := F3.out.c 0 8 rfl rfl; have d3x0_9 := F3.out.c 0 9 rfl rfl))
          go_roundw
          case rel => exact ⟨k + 1, by omega, by go_num, HB.out.trans (F3.out.bel.mono HB.out.size)⟩
          case measure => simp [intOf]; omega
        | true =>
          rw [hg] at hmy
          have hwr := ints_wf64 ht.ir
          obtain ⟨hgs, hgl⟩ := goodS_of hok.out hwr hg
          clear hwr hg
          by_cases hm1 : m < 1
          · skip
            clear hgs hgl
            have q0 := ht.cell 0 _ rfl
            have q1 := ht.cell 1 _ rfl
            have q2 := ht.cell 2 _ rfl
            have q3 := ht.cell 3 _ rfl
            have q4 := ht.cell 4 _ rfl
            have q5 := ht.cell 5 _ rfl
            have q6 := ht.cell 6 _ rfl
            have q7 := ht.cell 7 _ rfl
            have q8 := ht.cell 8 _ rfl
            have q9 := ht.cell 9 _ rfl
            simp only [Nat.add_zero] at q0
            have HR := Lib.hid (ht.ir.mono hsz)
            clear ht
            have F1 := Lib.hid ((Fr.start (w := wo) (I := [(.u64, aR, rs)]) (by intro p hp; simp at hp; subst hp; exact HR.out)).box1 (b := wo.heap.size) rfl [.slice aX xs.length cX, .int .i64 at_, .int .i64 ep, .slice aR rs.length cR, .int .u64 (s.a : Nat), .int .u64 (s.b : Nat), .int .u64 (s.c : Nat), .int .u64 (s.d : Nat), .int .i64 m, .int .i64 z] 75)
            simp only [List.nil_append] at F1
            go_upto_region 5 with fail
            obtain ⟨W1, hW1⟩ : ∃ W1, wo.alloc (.cells #[.slice aX xs.length cX, .int .i64 at_, .int .i64 ep, .slice aR rs.length cR, .int .u64 (s.a : Nat), .int .u64 (s.b : Nat), .int .u64 (s.c : Nat), .int .u64 (s.d : Nat), .int .i64 m, .int .i64 z] 75) = W1 := ⟨_, rfl⟩
            rw [hW1] at F1 ⊢
            clear hW1 q0 q1 q2 q3 q4 q5 q6 q7 q8 q9
            have c0_0 := F1.out.c 0 0 rfl rfl
            have c0_1 := F1.out.c 0 1 rfl rfl
            have c0_2 := F1.out.c 0 2 rfl rfl
            have c0_3 := F1.out.c 0 3 rfl rfl
            have c0_4 := F1.out.c 0 4 rfl rfl
            have c0_5 := F1.out.c 0 5 rfl rfl
            have c0_6 := F1.out.c 0 6 rfl rfl
            have c0_7 := F1.out.c 0 7 rfl rfl
            have c0_8 := F1.out.c 0 8 rfl rfl
            have c0_9 := F1.out.c 0 9 rfl rfl
            go_wp2_with (first | (go_at_call 48; refine ((hhv _).out).mono ?_; rintro e w2 ⟨rfl, hb⟩; have F2 := Lib.hid (F1.out.next hb); clear hb c0_0 c0_1 c0_2 c0_3 c0_4 c0_5 c0_6 c0_7 c0_8 c0_9; have d2x0_0 := F2.out.c 0 0 rfl rfl; have d2x0_1 := F2.out.c 0 1 rfl rfl; have d2x0_2 := F2.out.c 0 2 rfl rfl; have d2x0_3 := F2.out.c 0 3 rfl rfl; have d2x0_4 := F2.out.c 0 4 rfl rfl; have d2x0_5 := F2.out.c 0 5 rfl rfl; have d2x0_6 := F2.out.c 0 6 rfl rfl; have d2x0_7 := F2.out.c 0 7 rfl rfl; have d2x0_8 := F2.out.c 0 8 rfl rfl; have d2x0_9 := F2.out.c 0 9 rfl rfl) | (go_at_call 13; refine ((hmy _).out).mono ?_; rintro e w3 ⟨rfl, hb⟩; have F3 := Lib.hid (F2.out.next hb); clear hb d2x0_0 d2x0_1 d2x0_2 d2x0_3 d2x0_4 d2x0_5 d2x0_6 d2x0_7 d2x0_8 d2x0_9; have d3x0_0 := F3.out.c 0 0 rfl rfl; have d3x0_1 := F3.out.c 0 1 rfl rfl; have d3x0_2 := F3.out.c 0 2 rfl rfl; have d3x0_3 := F3.out.c 0 3 rfl rfl; have d3x0_4 := F3.out.c 0 4 rfl rfl; have d3x0_5 := F3.out.c 0 5 rfl rfl; have d3x0_6 := F3.out.c 0 6 rfl rfl; have d3x0_7 := F3.out.c 0 7 rfl rfl; have d3x0_8 := F3.out.c 0 8 rfl rfl; have d3x0_9 := F3.out.c 0 9 rfl rfl))
            go_roundw
            case rel => exact ⟨k + 1, by omega, by go_num, HB.out.trans (F3.out.bel.mono HB.out.size)⟩
            case measure => simp [intOf]; omega
          · by_cases hm2 : 1024 < m
            · skip
              clear hgs hgl
              have q0 := ht.cell 0 _ rfl
              have q1 := ht.cell 1 _ rfl
              have q2 := ht.cell 2 _ rfl
              have q3 := ht.cell 3 _ rfl
              have q4 := ht.cell 4 _ rfl
              have q5 := ht.cell 5 _ rfl
              have q6 := ht.cell 6 _ rfl
              have q7 := ht.cell 7 _ rfl
              have q8 := ht.cell 8 _ rfl
              have q9 := ht.cell 9 _ rfl
              simp only [Nat.add_zero] at q0
              have HR := Lib.hid (ht.ir.mono hsz)
              clear ht
              have F1 := Lib.hid ((Fr.start (w := wo) (I := [(.u64, aR, rs)]) (by intro p hp; simp at hp; subst hp; exact HR.out)).box1 (b := wo.heap.size) rfl [.slice aX xs.length cX, .int .i64 at_, .int .i64 ep, .slice aR rs.length cR, .int .u64 (s.a : Nat), .int .u64 (s.b : Nat), .int .u64 (s.c : Nat), .int .u64 (s.d : Nat), .int .i64 m, .int .i64 z] 75)
              simp only [List.nil_append] at F1
              go_upto_region 5 with fail
              obtain ⟨W1, hW1⟩ : ∃ W1, wo.alloc (.cells #[.slice aX xs.length cX, .int .i64 at_, .int .i64 ep, .slice aR rs.length cR, .int .u64 (s.a : Nat), .int .u64 (s.b : Nat), .int .u64 (s.c : Nat), .int .u64 (s.d : Nat), .int .i64 m, .int .i64 z] 75) = W1 := ⟨_, rfl⟩
              rw [hW1] at F1 ⊢
              clear hW1 q0 q1 q2 q3 q4 q5 q6 q7 q8 q9
              have c0_0 := F1.out.c 0 0 rfl rfl
              have c0_1 := F1.out.c 0 1 rfl rfl
              have c0_2 := F1.out.c 0 2 rfl rfl
              have c0_3 := F1.out.c 0 3 rfl rfl
              have c0_4 := F1.out.c 0 4 rfl rfl
              have c0_5 := F1.out.c 0 5 rfl rfl
              have c0_6 := F1.out.c 0 6 rfl rfl
              have c0_7 := F1.out.c 0 7 rfl rfl
              have c0_8 := F1.out.c 0 8 rfl rfl
              have c0_9 := F1.out.c 0 9 rfl rfl
              go_wp2_with (first | (go_at_call 48; refine ((hhv _).out).mono ?_; rintro e w2 ⟨rfl, hb⟩; have F2 := Lib.hid (F1.out.next hb); clear hb c0_0 c0_1 c0_2 c0_3 c0_4 c0_5 c0_6 c0_7 c0_8 c0_9; have d2x0_0 := F2.out.c 0 0 rfl rfl; have d2x0_1 := F2.out.c 0 1 rfl rfl; have d2x0_2 := F2.out.c 0 2 rfl rfl; have d2x0_3 := F2.out.c 0 3 rfl rfl; have d2x0_4 := F2.out.c 0 4 rfl rfl; have d2x0_5 := F2.out.c 0 5 rfl rfl; have d2x0_6 := F2.out.c 0 6 rfl rfl; have d2x0_7 := F2.out.c 0 7 rfl rfl; have d2x0_8 := F2.out.c 0 8 rfl rfl; have d2x0_9 := F2.out.c 0 9 rfl rfl) | (go_at_call 13; refine ((hmy _).out).mono ?_; rintro e w3 ⟨rfl, hb⟩; have F3 := Lib.hid (F2.out.next hb); clear hb d2x0_0 d2x0_1 d2x0_2 d2x0_3 d2x0_4 d2x0_5 d2x0_6 d2x0_7 d2x0_8 d2x0_9; have d3x0_0 := F3.out.c 0 0 rfl rfl; have d3x0_1 := F3.out.c 0 1 rfl rfl; have d3x0_2 := F3.out.c 0 2 rfl rfl; have d3x0_3 := F3.out.c 0 3 rfl rfl; have d3x0_4 := F3.out.c 0 4 rfl rfl; have d3x0_5 := F3.out.c 0 5 rfl rfl; have d3x0_6 := F3.out.c 0 6 rfl rfl; have d3x0_7 := F3.out.c 0 7 rfl rfl; have d3x0_8 := F3.out.c 0 8 rfl rfl; have d3x0_9 := F3.out.c 0 9 rfl rfl))
              go_roundw
              case rel => exact ⟨k + 1, by omega, by go_num, HB.out.trans (F3.out.bel.mono HB.out.size)⟩
              case measure => simp [intOf]; omega
            · skip
              obtain ⟨N, rfl⟩ : ∃ N : Nat, m = ((N + 1 : Nat) : Int) := ⟨m.toNat - 1, natPart (by omega)⟩
              have hN : N + 1 ≤ 1024 := by omega
              clear hm1 hm2 hv3 hb3a hb3b
              have HST := Lib.hid (fun W (h2 : Ints .u64 W W.heap.size aR rs) => start_good aR cR rs s N W hgs hgl h2 HCC.out hN)
              have HP0 := Lib.hid (show Plays (lst N rs s N) (tur N rs s N).1 (tur N rs s N).2 0 0 N from ⟨lst_once N rs s N (Nat.le_refl _), hN, Nat.zero_le _, by decide, tur_good hgs N, Nat.le_trans (tur_len N rs s N) hgl⟩)
              have h00 : nxA 0 N = 0 ∧ nxE 0 0 N = 0 := ⟨by simp [nxA], by simp [nxE]⟩
              have H00 := Lib.hid h00
              clear h00
              have HONE := Lib.hid (fun xs rs s A E p sz a a2 c c2 w => ep_next xs rs s A E N p sz a a2 c c2 w)
              have HMAY := Lib.hid (fun xs rs s A E (h : Plays xs rs s A E N) p => st_good h p)
              have HOX := Lib.hid (fun xs rs s A E (h : Plays xs rs s A E N) => nx_once (rs := rs) (s := s) (A := A) h.once)
              have HPN := Lib.hid (fun xs rs s A E (h : Plays xs rs s A E N) => plays_next h)
              have HN1 : Hid (∀ e, nxA (N + 1) N = 0 ∧ nxE (N + 1) e N = e + 1) := Lib.hid (fun e => ⟨by simp [nxA], by simp [nxE]⟩)
              have HXO := Lib.hid (fun xs rs s A E (h : Plays xs rs s A E N) => h.once)
              obtain ⟨m, hmN⟩ : ∃ m, N + 1 = m := ⟨_, rfl⟩
              rw [hmN] at ht hhv HST HONE HOX HPN HN1 HXO hN
              have HMN := Lib.hid hmN
              have n1 : 1 ≤ m := by omega
              clear hgs hgl hmN
              obtain ⟨X0, hX0⟩ : ∃ x, lst N rs s N = x := ⟨_, rfl⟩
              obtain ⟨R0, hR0⟩ : ∃ x, (tur N rs s N).1 = x := ⟨_, rfl⟩
              obtain ⟨S0, hS0⟩ : ∃ x, (tur N rs s N).2 = x := ⟨_, rfl⟩
              rw [hX0, hR0, hS0] at HST HP0
              clear hX0 hR0 hS0
              obtain ⟨sz, hsz2, hsz3⟩ : ∃ sz : Nat, 1 + withinN z 20 = (sz : Int) ∧ 1 ≤ sz ∧ sz ≤ 20 := by
                have := withinN_bound z 20 (by decide)
                exact ⟨(1 + withinN z 20).toNat, by omega, by omega, by omega⟩
              obtain ⟨hsz3, hsz4⟩ := hsz3
              have hwi := fun W => Lib.hid (within0_any z 20 W ⟨hb4a, hb4b⟩ (by decide) (by decide))
              obtain ⟨v, hv⟩ : ∃ v, withinN z 20 = v := ⟨_, rfl⟩
              rw [hv] at hsz2 hwi
              have hvb : 0 ≤ v ∧ v ≤ 19 := by omega
              obtain ⟨hvb1, hvb2⟩ := hvb
              have HSZ2 := Lib.hid hsz2
              clear hv hsz2
              have q0 := ht.cell 0 _ rfl
              have q1 := ht.cell 1 _ rfl
              have q2 := ht.cell 2 _ rfl
              have q3 := ht.cell 3 _ rfl
              have q4 := ht.cell 4 _ rfl
              have q5 := ht.cell 5 _ rfl
              have q6 := ht.cell 6 _ rfl
              have q7 := ht.cell 7 _ rfl
              have q8 := ht.cell 8 _ rfl
              have q9 := ht.cell 9 _ rfl
              simp only [Nat.add_zero] at q0
              have HR := Lib.hid (ht.ir.mono hsz)
              clear ht
              have F1 := Lib.hid ((Fr.start (w := wo) (I := [(.u64, aR, rs)]) (by intro p hp; simp at hp; subst hp; exact HR.out)).box1 (b := wo.heap.size) rfl [.slice aX xs.length cX, .int .i64 at_, .int .i64 ep, .slice aR rs.length cR, .int .u64 (s.a : Nat), .int .u64 (s.b : Nat), .int .u64 (s.c : Nat), .int .u64 (s.d : Nat), .int .i64 (m : Int), .int .i64 z] 75)
              simp only [List.nil_append] at F1
              go_upto_region 5 with fail
              obtain ⟨W1, hW1⟩ : ∃ W1, wo.alloc (.cells #[.slice aX xs.length cX, .int .i64 at_, .int .i64 ep, .slice aR rs.length cR, .int .u64 (s.a : Nat), .int .u64 (s.b : Nat), .int .u64 (s.c : Nat), .int .u64 (s.d : Nat), .int .i64 (m : Int), .int .i64 z] 75) = W1 := ⟨_, rfl⟩
              rw [hW1] at F1 ⊢
              clear hW1 q0 q1 q2 q3 q4 q5 q6 q7 q8 q9
              have c0_0 := F1.out.c 0 0 rfl rfl
              have c0_1 := F1.out.c 0 1 rfl rfl
              have c0_2 := F1.out.c 0 2 rfl rfl
              have c0_3 := F1.out.c 0 3 rfl rfl
              have c0_4 := F1.out.c 0 4 rfl rfl
              have c0_5 := F1.out.c 0 5 rfl rfl
              have c0_6 := F1.out.c 0 6 rfl rfl
              have c0_7 := F1.out.c 0 7 rfl rfl
              have c0_8 := F1.out.c 0 8 rfl rfl
              have c0_9 := F1.out.c 0 9 rfl rfl
              go_upto_region 6 with (first | (go_at_call 48; refine ((hhv _).out).mono ?_; rintro e w2 ⟨rfl, hb⟩; have F2 := Lib.hid (F1.out.next hb); clear hb c0_0 c0_1 c0_2 c0_3 c0_4 c0_5 c0_6 c0_7 c0_8 c0_9; have d2x0_0 := F2.out.c 0 0 rfl rfl; have d2x0_1 := F2.out.c 0 1 rfl rfl; have d2x0_2 := F2.out.c 0 2 rfl rfl; have d2x0_3 := F2.out.c 0 3 rfl rfl; have d2x0_4 := F2.out.c 0 4 rfl rfl; have d2x0_5 := F2.out.c 0 5 rfl rfl; have d2x0_6 := F2.out.c 0 6 rfl rfl; have d2x0_7 := F2.out.c 0 7 rfl rfl; have d2x0_8 := F2.out.c 0 8 rfl rfl; have d2x0_9 := F2.out.c 0 9 rfl rfl) | (go_at_call 13; refine ((hmy _).out).mono ?_; rintro e w3 ⟨rfl, hb⟩; have F3 := Lib.hid (F2.out.next hb); clear hb d2x0_0 d2x0_1 d2x0_2 d2x0_3 d2x0_4 d2x0_5 d2x0_6 d2x0_7 d2x0_8 d2x0_9; have d3x0_0 := F3.out.c 0 0 rfl rfl; have d3x0_1 := F3.out.c 0 1 rfl rfl; have d3x0_2 := F3.out.c 0 2 rfl rfl; have d3x0_3 := F3.out.c 0 3 rfl rfl; have d3x0_4 := F3.out.c 0 4 rfl rfl; have d3x0_5 := F3.out.c 0 5 rfl rfl; have d3x0_6 := F3.out.c 0 6 rfl rfl; have d3x0_7 := F3.out.c 0 7 rfl rfl; have d3x0_8 := F3.out.c 0 8 rfl rfl; have d3x0_9 := F3.out.c 0 9 rfl rfl))
              clear hhv hmy F1 F2
              have eSZ : ∀ [Inhabited Unit], 1 + v = (sz : Int) := by intro _; exact HSZ2.out
              go_upto_region 7 with (go_at_call 30; refine (hwi _).out.mono ?_; rintro e w' ⟨rfl, rfl⟩)
              have d1 : decide ((m : Int) < 1) = false := by simp; omega
              (try simp only [d1])
              clear d1
              go_upto_region 8 with (go_at_call 54; refine ((HST.out _ (F3.out.lw 0 rfl))).mono ?_; rintro e w5 ⟨ao, co, ar, cr, rfl, hfr⟩; have F5 := Lib.hid (F3.out.join hfr); simp only [List.nil_append] at F5; clear hfr F3 d3x0_0 d3x0_1 d3x0_2 d3x0_3 d3x0_4 d3x0_5 d3x0_6 d3x0_7 d3x0_8 d3x0_9)
              obtain ⟨C, hC⟩ : ∃ x, w5.heap.size = x := ⟨_, rfl⟩
              rw [hC]
              have F6 := Lib.hid ((F5.out.box1 (b := C) (by simp [hC]) [.slice ao X0.length co, .int .i64 0, .int .i64 0] 73).box1 (b := C + 1) (by simp [hC]) [.slice ar R0.length cr, .int .u64 (S0.a : Nat), .int .u64 (S0.b : Nat), .int .u64 (S0.c : Nat), .int .u64 (S0.d : Nat)] 27)
              simp only [List.nil_append, List.cons_append] at F6
              obtain ⟨W6, hW6⟩ : ∃ x, ((w5.alloc (.cells #[.slice ao X0.length co, .int .i64 0, .int .i64 0] 73)).alloc (.cells #[.slice ar R0.length cr, .int .u64 (S0.a : Nat), .int .u64 (S0.b : Nat), .int .u64 (S0.c : Nat), .int .u64 (S0.d : Nat)] 27)) = x := ⟨_, rfl⟩
              rw [hW6] at F6 ⊢
              clear hW6 hC F5
              go_upto_region 10 with (go_at_call 51; refine (num31_any _ _).mono ?_; rintro e w' ⟨rfl, rfl⟩)
              have hwx := F6.out.li 0 (k := .i64) (xs := X0) rfl (once_wf (HXO.out _ _ _ _ _ HP0.out) (by omega))
              have hwr := F6.out.li 1 (k := .u64) (xs := R0) rfl (wf_of_bounds HP0.out.g.2.2)
              have HCAP0 := Lib.hid (own_cap2 (F6.out.r 1 rfl))
              have HWX := Lib.hid hwx
              have HWR := Lib.hid hwr
              clear hwx hwr
              go_wp2
              go_loopw [9] (fun i wr => ∃ e : Nat, e ≤ 2 ∧ i = .int .i64 e ∧ ∃ X R S A E ad cd ag cg, Hid (Plays X R S A E N) ∧ Hid (nxA A N = 0 ∧ nxE A E N = e) ∧ Hid (R.length ≤ cg ∧ cg ≤ 9223372036854775807) ∧ Hid (Ints .i64 wr wr.heap.size ad X) ∧ Hid (Ints .u64 wr wr.heap.size ag R) ∧ Hid (Fr wo.heap.size wo wr [(wo.heap.size, [.slice aX xs.length cX, .int .i64 at_, .int .i64 ep, .slice aR rs.length cR, .int .u64 (s.a : Nat), .int .u64 (s.b : Nat), .int .u64 (s.c : Nat), .int .u64 (s.d : Nat), .int .i64 (m : Int), .int .i64 z]), (C, [.slice ad X.length cd, .int .i64 (A : Int), .int .i64 (E : Int)]), (C + 1, [.slice ag R.length cg, .int .u64 (S.a : Nat), .int .u64 (S.b : Nat), .int .u64 (S.c : Nat), .int .u64 (S.d : Nat)])] [(.u64, aR, rs)] [] [])) (fun i _ => 2 - (intOf i).toNat)
              case atStart =>
                exact ⟨0, by omega, rfl, X0, R0, S0, 0, 0, ao, co, ar, cr, HP0, H00, HCAP0, HWX, HWR, Lib.hid (F6.out.less (List.Sublist.refl _) (List.Sublist.refl _) (by simp) (List.Sublist.refl _))⟩
              case round =>
                clear F6 HWX HWR HCAP0 HP0 H00
                obtain ⟨ne, hne, rfl, X, R, S, A, E, ad, cd, ag, cg, HP, HAE, HCG, HIX, HIR, FE⟩ := hrel
                obtain ⟨wE, rfl⟩ : ∃ wE : World, wE = wr := ⟨_, rfl⟩
                by_cases hel : ne < 2
                · skip
                  have hone := fun p a a2 c c2 w hp h1 h2 h3 => HONE.out X R S A E p sz a a2 c c2 w HP.out HAE.out.1 hp hsz3 hsz4 h1 h2 h3
                  have hox := HOX.out _ _ _ _ _ HP.out
                  have hpn := HPN.out _ _ _ _ _ HP.out
                  have hgd := HMAY.out _ _ _ _ _ HP.out
                  have h0 := And.intro (show stX X R S A N 0 = X from rfl) (And.intro (show stA A N 0 = A from rfl) (And.intro (show stE A E N 0 = E from rfl) (And.intro (show stR R S A N 0 = R from rfl) (show stS R S A N 0 = S from rfl))))
                  have h1 := fun p (hp : 0 < p) => st_pos (xs := X) (rs := R) (s := S) (A := A) (E := E) (N := N) hp
                  rw [HAE.out.1, HAE.out.2] at h1
                  rw [HAE.out.2] at hone hpn
                  simp only [Nat.zero_add] at h1
                  generalize stX X R S A N = fX at hone hox hpn hgd h0 h1
                  generalize stA A N = fA at hone hox hpn hgd h0 h1
                  generalize stE A E N = fE at hone hox hpn hgd h0 h1
                  generalize stR R S A N = fR at hone hox hpn hgd h0 h1
                  generalize stS R S A N = fS at hone hox hpn hgd h0 h1
                  generalize nxO X R S A N = X1 at hone hox hpn hgd h0 h1
                  generalize nxR R S A N = R1 at hone hox hpn hgd h0 h1
                  generalize nxS R S A N = S1 at hone hox hpn hgd h0 h1
                  have hX1 := hox.len
                  have HX1 := Lib.hid hX1
                  have HOX1 := Lib.hid hox
                  have HWX := Lib.hid (once_wf hox (by omega))
                  have HONE1 := Lib.hid hone
                  have HPN1 := Lib.hid (hpn (by omega))
                  have HGD := Lib.hid hgd
                  have H0 := Lib.hid h0
                  have H1 := Lib.hid h1
                  clear hone hox hpn hgd h0 h1 hX1
                  go_wp2
                  have d70 : decide ((ne : Int) < 2) = true := by simp; omega
                  simp only [d70]
                  clear d70
                  go_loopw [10] (fun s10 wr => ∃ p : Nat, p ≤ m ∧ ∃ al cl, s10 = .slice al p cl ∧ ∃ ad cd ag cg, Hid ((fR p).length ≤ cg ∧ cg ≤ 9223372036854775807) ∧ Hid (Ints .i64 wr wr.heap.size ad (fX p)) ∧ Hid (Ints .u64 wr wr.heap.size ag (fR p)) ∧ Hid (Fr wo.heap.size wo wr [(wo.heap.size, [.slice aX xs.length cX, .int .i64 at_, .int .i64 ep, .slice aR rs.length cR, .int .u64 (s.a : Nat), .int .u64 (s.b : Nat), .int .u64 (s.c : Nat), .int .u64 (s.d : Nat), .int .i64 (m : Int), .int .i64 z]), (C, [.slice ad (fX p).length cd, .int .i64 (fA p : Nat), .int .i64 (fE p : Nat)]), (C + 1, [.slice ag (fR p).length cg, .int .u64 ((fS p).a : Nat), .int .u64 ((fS p).b : Nat), .int .u64 ((fS p).c : Nat), .int .u64 ((fS p).d : Nat)])] [(.u64, aR, rs)] [⟨3, .slice al p cl, p, (X1.take p).map (Value.int .i64)⟩] [])) (fun s10 _ => m - slLen s10)
                  case atStart =>
                    obtain ⟨g1, g2, g3, g4, g5⟩ := H0.out
                    refine ⟨0, Nat.zero_le _, none, 0, rfl, ad, cd, ag, cg, ?_⟩
                    rw [g1, g2, g3, g4, g5]
                    exact ⟨HCG, HIX, HIR, Lib.hid (FE.out.addNil _)⟩
                  case round =>
                    clear FE HCG HIX HIR
                    obtain ⟨p, hp, al, cl, rfl, ad, cd, ag, cg, HCG, HIX, HIR, FP⟩ := hrel
                    by_cases hpl : p < m
                    · skip
                      have p0_0 := FP.out.c 0 0 rfl rfl
                      have p0_1 := FP.out.c 0 1 rfl rfl
                      have p0_2 := FP.out.c 0 2 rfl rfl
                      have p0_3 := FP.out.c 0 3 rfl rfl
                      have p0_4 := FP.out.c 0 4 rfl rfl
                      have p0_5 := FP.out.c 0 5 rfl rfl
                      have p0_6 := FP.out.c 0 6 rfl rfl
                      have p0_7 := FP.out.c 0 7 rfl rfl
                      have p0_8 := FP.out.c 0 8 rfl rfl
                      have p0_9 := FP.out.c 0 9 rfl rfl
                      have p1_0 := FP.out.c 1 0 rfl rfl
                      have p1_1 := FP.out.c 1 1 rfl rfl
                      have p1_2 := FP.out.c 1 2 rfl rfl
                      have p2_0 := FP.out.c 2 0 rfl rfl
                      have p2_1 := FP.out.c 2 1 rfl rfl
                      have p2_2 := FP.out.c 2 2 rfl rfl
                      have p2_3 := FP.out.c 2 3 rfl rfl
                      have p2_4 := FP.out.c 2 4 rfl rfl
                      have hcall := fun a a2 c c2 W h1 h2 h3 => HONE1.out p a a2 c c2 W hpl h1 h2 h3
                      obtain ⟨q, hq⟩ : ∃ q, min (p + sz) m = q := ⟨_, rfl⟩
                      rw [hq] at hcall
                      obtain ⟨L, hL⟩ : ∃ L, q - p = L := ⟨_, rfl⟩
                      rw [hL] at hcall
                      have hqL : q = p + L := by omega
                      have hL1 : 1 ≤ L := by omega
                      have hLm : p + L ≤ m := by omega
                      have HLM : Hid (L = min sz (m - p)) := Lib.hid (by omega)
                      have HQ := Lib.hid hqL
                      obtain ⟨SL, hSL⟩ : ∃ SL, (X1.drop p).take L = SL := ⟨_, rfl⟩
                      rw [hSL] at hcall
                      have HSLE := Lib.hid hSL
                      have HSL : Hid (SL.length = L) := Lib.hid (by rw [← hSL]; have := HX1.out; simp; omega)
                      have HWS : Hid (∀ x ∈ SL, (Lit.int .i64 x).wf = true) := Lib.hid (fun x hx => by rw [← hSL] at hx; exact HWX.out x (List.mem_of_mem_drop (List.mem_of_mem_take hx)))
                      have HCALL := Lib.hid hcall
                      have hqm : q ≤ m := by omega
                      have hxlen := (H1.out (p + 1) (by omega)).1
                      have HXLEN : Hid ((fX p).length ≤ 1024) := Lib.hid (by
                        by_cases h0 : p = 0
                        · rw [h0, H0.out.1]; have := (HXO.out _ _ _ _ _ HP.out).len; omega
                        · rw [(H1.out p (by omega)).1]; have := HX1.out; omega)
                      have HRLEN := Lib.hid (HGD.out p).2
                      have HWFR : Hid (∀ x ∈ fR p, (Lit.int .u64 x).wf = true) := Lib.hid (wf_of_bounds (HGD.out p).1.2.2)
                      clear hcall hq hL hqL hSL hxlen
                      go_upto_region 16 with (go_at_call 50; refine (HCALL.out _ _ _ _ _ HIX.out HIR.out HCG.out).mono ?_; rintro e w8 ⟨bi, di, bo, do_, br, dr, rfl, hfr⟩; rw [HSL.out] at hfr ⊢; have F8 := Lib.hid (FP.out.join hfr); have HB8 := Lib.hid hfr.bel; simp only [List.cons_append, List.nil_append] at F8; clear hfr FP p0_0 p0_1 p0_2 p0_3 p0_4 p0_5 p0_6 p0_7 p0_8 p0_9 p1_0 p1_1 p1_2 p2_0 p2_1 p2_2 p2_3 p2_4)
                      obtain ⟨D, hD⟩ : ∃ x, w8.heap.size = x := ⟨_, rfl⟩
                      rw [hD]
                      have F9 := Lib.hid ((F8.out.box1 (b := D) (by simp [hD]) [.slice bo X1.length do_, .int .i64 (q : Int), .int .i64 (ne : Int)] 73).box1 (b := D + 1) (by simp [hD]) [.slice br R1.length dr, .int .u64 (S1.a : Nat), .int .u64 (S1.b : Nat), .int .u64 (S1.c : Nat), .int .u64 (S1.d : Nat)] 27)
                      simp only [List.nil_append, List.cons_append] at F9
                      obtain ⟨W9, hW9⟩ : ∃ x, ((w8.alloc (.cells #[.slice bo X1.length do_, .int .i64 (q : Int), .int .i64 (ne : Int)] 73)).alloc (.cells #[.slice br R1.length dr, .int .u64 (S1.a : Nat), .int .u64 (S1.b : Nat), .int .u64 (S1.c : Nat), .int .u64 (S1.d : Nat)] 27)) = x := ⟨_, rfl⟩
                      rw [hW9] at F9 ⊢
                      have HB9 : Hid (Below w8.heap.size w8 W9) := Lib.hid (by rw [← hW9]; exact ((Below.refl _ _).alloc (Nat.le_refl _) _).alloc (by simp) _)
                      clear hW9 hD F8
                      have HIX9 := Lib.hid ((((HIX.out.below HB8.out (Nat.le_refl _)).mono HB8.out.size).below HB9.out (Nat.le_refl _)).mono HB9.out.size)
                      have HIR9 := Lib.hid ((((HIR.out.below HB8.out (Nat.le_refl _)).mono HB8.out.size).below HB9.out (Nat.le_refl _)).mono HB9.out.size)
                      clear HB8 HB9 HIX HIR HCG
                      refine wp_region_partsL (w := W9) 16 3 [11, 12] [13, 14] [(fun u _ => u = .agg #[.slice ad (fX p).length cd, .int .i64 (fA p : Nat), .int .i64 (fE p : Nat)]), ((IsCur W9.heap.size (fX p) (fA p : Nat) (fE p : Nat))), (fun u _ => u = .agg #[.slice ag (fR p).length cg, .int .u64 ((fS p).a : Nat), .int .u64 ((fS p).b : Nat), .int .u64 ((fS p).c : Nat), .int .u64 ((fS p).d : Nat)]), ((IsGnE W9.heap.size (fR p) (fS p))), (fun u _ => u = .pointer (some ⟨wo.heap.size, 8, none⟩)), (fun u _ => u = .int .i64 (m : Int)), (fun u _ => u = .int .i64 (sz : Int)), ((IsNxt W9.heap.size L SL X1 (q : Int) (ne : Int) R1 S1)), ((IsNxt W9.heap.size L SL X1 (q : Int) (ne : Int) R1 S1)), ((IsRow W9.heap.size 3 L (SL.map (Value.int .i64)))), ((IsC X1.length (q : Int) (ne : Int))), ((IsG R1.length S1)), (fun u _ => u = .int .i64 0), ((IsObj W9.heap.size [.slice none 0 0, .int .i64 0, .int .i64 0] 73)), ((IsObj W9.heap.size [.slice none 0 0, .int .u64 0, .int .u64 0, .int .u64 0, .int .u64 0] 27)), ((IsRow W9.heap.size 3 L (SL.map (Value.int .i64))))] [some 90, some 91, some 92, some 93, some 94, some 95, some 96, some 97, some 89, some 98, some 99, some 100, some 101, some 16, some 17, some 15, none, none, some 18] #[true, true, true, true, true, true, true, true, true, true, true, true, true, true, true, true, false, false, false] #[true, true, true, true, true, true, true, true, true, true, true, false, false, true, true, true, false, false, false] (by kernel_rfl) rfl (by kernel_rfl) (by kernel_rfl) (by kernel_rfl) (by kernel_rfl) rfl (by kernel_rfl) (by kernel_rfl) (.cons (carries_eq _) (.cons (isCur_carries _ _ _ _) (.cons (carries_eq _) (.cons (isGnE_carries _ _ _) (.cons (carries_eq _) (.cons (carries_eq _) (.cons (carries_eq _) (.cons (isNxt_carries _ _ _ _ _ _ _ _) (.cons (isNxt_carries _ _ _ _ _ _ _ _) (.cons (isRow_carries _ _ _ _) (.cons (isC_carries _ _ _) (.cons (isG_carries _ _) (.cons (carries_eq _) (.cons (isObj_carries _ _ _) (.cons (isObj_carries _ _ _) (.cons (isRow_carries _ _ _ _) .nil)))))))))))))))) (by decide) (fun vs b hvl hvb => ?_)
                      obtain ⟨x0, x1, x2, x3, x4, x5, x6, x7, x8, x9, x10, x11, x12, x13, x14, x15, x16, x17, x18, rfl⟩ : ∃ x0 x1 x2 x3 x4 x5 x6 x7 x8 x9 x10 x11 x12 x13 x14 x15 x16 x17 x18, vs = [x0, x1, x2, x3, x4, x5, x6, x7, x8, x9, x10, x11, x12, x13, x14, x15, x16, x17, x18] := lst19 hvl
                      clear hvl
                      simp only [putAll, Act.put, List.setIfInBounds_toArray, List.set_cons_zero, List.set_cons_succ] at hvb
                      subst hvb
                      refine ⟨(.snoc (.snoc (.snoc (.snoc (.snoc (.snoc (.snoc (.snoc (.snoc (.snoc (.snoc (.snoc (.snoc (.snoc (.snoc (.snoc .zero (PartOb.intro (d := (some 90)) (r := fun u _ => u = .agg #[.slice ad (fX p).length cd, .int .i64 (fA p : Nat), .int .i64 (fE p : Nat)]) rfl rfl rfl rfl ?po16x0)) (PartOb.intro (d := (some 91)) (r := (IsCur W9.heap.size (fX p) (fA p : Nat) (fE p : Nat))) rfl rfl rfl rfl ?po16x1)) (PartOb.intro (d := (some 92)) (r := fun u _ => u = .agg #[.slice ag (fR p).length cg, .int .u64 ((fS p).a : Nat), .int .u64 ((fS p).b : Nat), .int .u64 ((fS p).c : Nat), .int .u64 ((fS p).d : Nat)]) rfl rfl rfl rfl ?po16x2)) (PartOb.intro (d := (some 93)) (r := (IsGnE W9.heap.size (fR p) (fS p))) rfl rfl rfl rfl ?po16x3)) (PartOb.intro (d := (some 94)) (r := fun u _ => u = .pointer (some ⟨wo.heap.size, 8, none⟩)) rfl rfl rfl rfl ?po16x4)) (PartOb.intro (d := (some 95)) (r := fun u _ => u = .int .i64 (m : Int)) rfl rfl rfl rfl ?po16x5)) (PartOb.intro (d := (some 96)) (r := fun u _ => u = .int .i64 (sz : Int)) rfl rfl rfl rfl ?po16x6)) (PartOb.intro (d := (some 97)) (r := (IsNxt W9.heap.size L SL X1 (q : Int) (ne : Int) R1 S1)) rfl rfl rfl rfl ?po16x7)) (PartOb.intro (d := (some 89)) (r := (IsNxt W9.heap.size L SL X1 (q : Int) (ne : Int) R1 S1)) rfl rfl rfl rfl ?po16x8)) (PartOb.intro (d := (some 98)) (r := (IsRow W9.heap.size 3 L (SL.map (Value.int .i64)))) rfl rfl rfl rfl ?po16x9)) (PartOb.intro (d := (some 99)) (r := (IsC X1.length (q : Int) (ne : Int))) rfl rfl rfl rfl ?po16x10)) (PartOb.intro (d := (some 100)) (r := (IsG R1.length S1)) rfl rfl rfl rfl ?po16x11)) (PartOb.intro (d := (some 101)) (r := fun u _ => u = .int .i64 0) rfl rfl rfl rfl ?po16x12)) (PartOb.made (d := (some 16)) (r := (IsObj W9.heap.size [.slice none 0 0, .int .i64 0, .int .i64 0] 73)) rfl rfl rfl ?po16x13)) (PartOb.made (d := (some 17)) (r := (IsObj W9.heap.size [.slice none 0 0, .int .u64 0, .int .u64 0, .int .u64 0, .int .u64 0] 27)) rfl rfl rfl ?po16x14)) (PartOb.intro (d := (some 15)) (r := (IsRow W9.heap.size 3 L (SL.map (Value.int .i64)))) rfl rfl rfl rfl ?po16x15)), ?pend16, ?pfl16⟩
                      case po16x0 =>
                        intro w1 hb1 hd KK hK
                        clear hd
                        have hF := F9.out.next hb1
                        have k0 := hF.c 1 0 rfl rfl
                        have k1 := hF.c 1 1 rfl rfl
                        have k2 := hF.c 1 2 rfl rfl
                        simp only [Act.put, List.setIfInBounds_toArray, List.set_cons_zero, List.set_cons_succ] at hK
                        go_simp
                        first | exact hK.out _ _ (Below.refl _ _) rfl | (have hk := hK.out _ _ (Below.refl _ _) rfl; revert hk; go_simp)
                      case po16x1 =>
                        intro w1 hb1 hd KK hK
                        have d0 : x0 = .agg #[.slice ad (fX p).length cd, .int .i64 (fA p : Nat), .int .i64 (fE p : Nat)] := hd 0 (by kernel_rfl)
                        clear hd
                        subst d0
                        simp only [Act.put, List.setIfInBounds_toArray, List.set_cons_zero, List.set_cons_succ] at hK
                        go_simp
                        go_at_call 55
                        refine (copyCursor_any ad cd (fX p) _ _ w1 ((HIX9.out.below hb1 (Nat.le_refl _)).mono hb1.size) (by have := HXLEN.out; omega)).mono ?_
                        rintro e w2 ⟨a2, c2, rfl, hf2⟩
                        (try go_wp2_with fail)
                        first | exact hK.out _ _ hf2.bel ⟨a2, c2, rfl, own_mono (hf2.r 0 rfl) hb1.size⟩ | (have hk := hK.out _ _ hf2.bel ⟨a2, c2, rfl, own_mono (hf2.r 0 rfl) hb1.size⟩; revert hk; go_simp)
                      case po16x2 =>
                        intro w1 hb1 hd KK hK
                        clear hd
                        have hF := F9.out.next hb1
                        have k0 := hF.c 2 0 rfl rfl
                        have k1 := hF.c 2 1 rfl rfl
                        have k2 := hF.c 2 2 rfl rfl
                        have k3 := hF.c 2 3 rfl rfl
                        have k4 := hF.c 2 4 rfl rfl
                        simp only [Act.put, List.setIfInBounds_toArray, List.set_cons_zero, List.set_cons_succ] at hK
                        go_simp
                        first | exact hK.out _ _ (Below.refl _ _) rfl | (have hk := hK.out _ _ (Below.refl _ _) rfl; revert hk; go_simp)
                      case po16x3 =>
                        intro w1 hb1 hd KK hK
                        have d1 : (IsCur W9.heap.size (fX p) (fA p : Nat) (fE p : Nat)) x1 w1 := hd 1 (by kernel_rfl)
                        have d2 : x2 = .agg #[.slice ag (fR p).length cg, .int .u64 ((fS p).a : Nat), .int .u64 ((fS p).b : Nat), .int .u64 ((fS p).c : Nat), .int .u64 ((fS p).d : Nat)] := hd 2 (by kernel_rfl)
                        clear hd
                        obtain ⟨a1, c1, rfl, hO1⟩ := d1
                        subst d2
                        simp only [Act.put, List.setIfInBounds_toArray, List.set_cons_zero, List.set_cons_succ] at hK
                        go_simp
                        go_at_call 21
                        refine (copyRand_any ag cg (fR p) (fS p) w1 ((HIR9.out.below hb1 (Nat.le_refl _)).mono hb1.size) (by have := HRLEN.out; omega)).mono ?_
                        rintro e w2 ⟨a2, c2, rfl, ho2, hb2⟩
                        (try go_wp2_with fail)
                        first | exact hK.out _ _ hb2 ⟨a2, c2, rfl, own_mono ho2 hb1.size⟩ | (have hk := hK.out _ _ hb2 ⟨a2, c2, rfl, own_mono ho2 hb1.size⟩; revert hk; go_simp)
                      case po16x4 =>
                        intro w1 hb1 hd KK hK
                        clear hd
                        simp only [Act.put, List.setIfInBounds_toArray, List.set_cons_zero, List.set_cons_succ] at hK
                        go_simp
                        first | exact hK.out _ _ (Below.refl _ _) rfl | (have hk := hK.out _ _ (Below.refl _ _) rfl; revert hk; go_simp)
                      case po16x5 =>
                        intro w1 hb1 hd KK hK
                        have d4 : x4 = .pointer (some ⟨wo.heap.size, 8, none⟩) := hd 4 (by kernel_rfl)
                        clear hd
                        subst d4
                        have hF := F9.out.next hb1
                        have k0 := hF.c 0 0 rfl rfl
                        have k1 := hF.c 0 1 rfl rfl
                        have k2 := hF.c 0 2 rfl rfl
                        have k3 := hF.c 0 3 rfl rfl
                        have k4 := hF.c 0 4 rfl rfl
                        have k5 := hF.c 0 5 rfl rfl
                        have k6 := hF.c 0 6 rfl rfl
                        have k7 := hF.c 0 7 rfl rfl
                        have k8 := hF.c 0 8 rfl rfl
                        have k9 := hF.c 0 9 rfl rfl
                        simp only [Act.put, List.setIfInBounds_toArray, List.set_cons_zero, List.set_cons_succ] at hK
                        go_simp
                        first | exact hK.out _ _ (Below.refl _ _) rfl | (have hk := hK.out _ _ (Below.refl _ _) rfl; revert hk; go_simp)
                      case po16x6 =>
                        intro w1 hb1 hd KK hK
                        clear hd
                        simp only [Act.put, List.setIfInBounds_toArray, List.set_cons_zero, List.set_cons_succ] at hK
                        go_simp
                        first | exact hK.out _ _ (Below.refl _ _) rfl | (have hk := hK.out _ _ (Below.refl _ _) rfl; revert hk; go_simp)
                      case po16x7 =>
                        intro w1 hb1 hd KK hK
                        have d1 : (IsCur W9.heap.size (fX p) (fA p : Nat) (fE p : Nat)) x1 w1 := hd 1 (by kernel_rfl)
                        have d3 : (IsGnE W9.heap.size (fR p) (fS p)) x3 w1 := hd 3 (by kernel_rfl)
                        have d5 : x5 = .int .i64 (m : Int) := hd 5 (by kernel_rfl)
                        have d6 : x6 = .int .i64 (sz : Int) := hd 6 (by kernel_rfl)
                        clear hd
                        obtain ⟨a1, c1, rfl, hO1⟩ := d1
                        obtain ⟨a3, c3, rfl, hO3⟩ := d3
                        subst d5
                        subst d6
                        simp only [Act.put, List.setIfInBounds_toArray, List.set_cons_zero, List.set_cons_succ] at hK
                        go_simp
                        go_at_call 50
                        refine (HCALL.out a1 a3 c1 c3 w1 (own_read hO1 HIX9.out.wf) (own_read hO3 HWFR.out) (own_cap2 hO3)).mono ?_
                        rintro e w2 ⟨a2, c2, ao2, co2, ar2, cr2, rfl, hf2⟩
                        rw [HSL.out] at hf2 ⊢
                        (try go_wp2_with fail)
                        first | exact hK.out _ _ hf2.bel ⟨a2, c2, ao2, co2, ar2, cr2, rfl, own_mono (hf2.r 2 rfl) hb1.size⟩ | (have hk := hK.out _ _ hf2.bel ⟨a2, c2, ao2, co2, ar2, cr2, rfl, own_mono (hf2.r 2 rfl) hb1.size⟩; revert hk; go_simp)
                      case po16x8 =>
                        intro w1 hb1 hd KK hK
                        have d7 : (IsNxt W9.heap.size L SL X1 (q : Int) (ne : Int) R1 S1) x7 w1 := hd 7 (by kernel_rfl)
                        clear hd
                        obtain ⟨a7, c7, a7o, c7o, a7r, c7r, rfl, hO7⟩ := d7
                        simp only [Act.put, List.setIfInBounds_toArray, List.set_cons_zero, List.set_cons_succ] at hK
                        go_simp
                        first | exact hK.out _ _ (Below.refl _ _) ⟨_, _, _, _, _, _, rfl, hO7⟩ | (have hk := hK.out _ _ (Below.refl _ _) ⟨_, _, _, _, _, _, rfl, hO7⟩; revert hk; go_simp)
                      case po16x9 =>
                        intro w1 hb1 hd KK hK
                        have d8 : (IsNxt W9.heap.size L SL X1 (q : Int) (ne : Int) R1 S1) x8 w1 := hd 8 (by kernel_rfl)
                        clear hd
                        obtain ⟨a8, c8, a8o, c8o, a8r, c8r, rfl, hO8⟩ := d8
                        simp only [Act.put, List.setIfInBounds_toArray, List.set_cons_zero, List.set_cons_succ] at hK
                        go_simp
                        first | exact hK.out _ _ (Below.refl _ _) ⟨_, _, rfl, hO8⟩ | (have hk := hK.out _ _ (Below.refl _ _) ⟨_, _, rfl, hO8⟩; revert hk; go_simp)
                      case po16x10 =>
                        intro w1 hb1 hd KK hK
                        have d8 : (IsNxt W9.heap.size L SL X1 (q : Int) (ne : Int) R1 S1) x8 w1 := hd 8 (by kernel_rfl)
                        clear hd
                        obtain ⟨a8, c8, a8o, c8o, a8r, c8r, rfl, hO8⟩ := d8
                        simp only [Act.put, List.setIfInBounds_toArray, List.set_cons_zero, List.set_cons_succ] at hK
                        go_simp
                        first | exact hK.out _ _ (Below.refl _ _) ⟨_, _, rfl⟩ | (have hk := hK.out _ _ (Below.refl _ _) ⟨_, _, rfl⟩; revert hk; go_simp)
                      case po16x11 =>
                        intro w1 hb1 hd KK hK
                        have d8 : (IsNxt W9.heap.size L SL X1 (q : Int) (ne : Int) R1 S1) x8 w1 := hd 8 (by kernel_rfl)
                        clear hd
                        obtain ⟨a8, c8, a8o, c8o, a8r, c8r, rfl, hO8⟩ := d8
                        simp only [Act.put, List.setIfInBounds_toArray, List.set_cons_zero, List.set_cons_succ] at hK
                        go_simp
                        first | exact hK.out _ _ (Below.refl _ _) ⟨_, _, rfl⟩ | (have hk := hK.out _ _ (Below.refl _ _) ⟨_, _, rfl⟩; revert hk; go_simp)
                      case po16x12 =>
                        intro w1 hb1 hd KK hK
                        have d8 : (IsNxt W9.heap.size L SL X1 (q : Int) (ne : Int) R1 S1) x8 w1 := hd 8 (by kernel_rfl)
                        clear hd
                        obtain ⟨a8, c8, a8o, c8o, a8r, c8r, rfl, hO8⟩ := d8
                        simp only [Act.put, List.setIfInBounds_toArray, List.set_cons_zero, List.set_cons_succ] at hK
                        go_simp
                        first | exact hK.out _ _ (Below.refl _ _) rfl | (have hk := hK.out _ _ (Below.refl _ _) rfl; revert hk; go_simp)
                      case po16x13 =>
                        intro w1 hb1 hd KK hK
                        clear hd
                        simp only [Act.put, List.setIfInBounds_toArray, List.set_cons_zero, List.set_cons_succ] at hK
                        go_simp
                        first | exact hK.out _ ((Below.refl _ _).alloc (Nat.le_refl _) _) (by simp) (isObj_new _ _ _ w1 hb1.size) | (have hk := hK.out _ ((Below.refl _ _).alloc (Nat.le_refl _) _) (by simp) (isObj_new _ _ _ w1 hb1.size); revert hk; go_simp)
                      case po16x14 =>
                        intro w1 hb1 hd KK hK
                        clear hd
                        simp only [Act.put, List.setIfInBounds_toArray, List.set_cons_zero, List.set_cons_succ] at hK
                        go_simp
                        first | exact hK.out _ ((Below.refl _ _).alloc (Nat.le_refl _) _) (by simp) (isObj_new _ _ _ w1 hb1.size) | (have hk := hK.out _ ((Below.refl _ _).alloc (Nat.le_refl _) _) (by simp) (isObj_new _ _ _ w1 hb1.size); revert hk; go_simp)
                      case po16x15 =>
                        intro w1 hb1 hd KK hK
                        have d0 : x0 = .agg #[.slice ad (fX p).length cd, .int .i64 (fA p : Nat), .int .i64 (fE p : Nat)] := hd 0 (by kernel_rfl)
                        have d1 : (IsCur W9.heap.size (fX p) (fA p : Nat) (fE p : Nat)) x1 w1 := hd 1 (by kernel_rfl)
                        have d2 : x2 = .agg #[.slice ag (fR p).length cg, .int .u64 ((fS p).a : Nat), .int .u64 ((fS p).b : Nat), .int .u64 ((fS p).c : Nat), .int .u64 ((fS p).d : Nat)] := hd 2 (by kernel_rfl)
                        have d3 : (IsGnE W9.heap.size (fR p) (fS p)) x3 w1 := hd 3 (by kernel_rfl)
                        have d4 : x4 = .pointer (some ⟨wo.heap.size, 8, none⟩) := hd 4 (by kernel_rfl)
                        have d5 : x5 = .int .i64 (m : Int) := hd 5 (by kernel_rfl)
                        have d6 : x6 = .int .i64 (sz : Int) := hd 6 (by kernel_rfl)
                        have d7 : (IsNxt W9.heap.size L SL X1 (q : Int) (ne : Int) R1 S1) x7 w1 := hd 7 (by kernel_rfl)
                        have d8 : (IsNxt W9.heap.size L SL X1 (q : Int) (ne : Int) R1 S1) x8 w1 := hd 8 (by kernel_rfl)
                        have d9 : (IsRow W9.heap.size 3 L (SL.map (Value.int .i64))) x9 w1 := hd 9 (by kernel_rfl)
                        have d13 : (IsObj W9.heap.size [.slice none 0 0, .int .i64 0, .int .i64 0] 73) x13 w1 := hd 13 (by kernel_rfl)
                        have d14 : (IsObj W9.heap.size [.slice none 0 0, .int .u64 0, .int .u64 0, .int .u64 0, .int .u64 0] 27) x14 w1 := hd 14 (by kernel_rfl)
                        clear hd
                        subst d0
                        obtain ⟨a1, c1, rfl, hO1⟩ := d1
                        subst d2
                        obtain ⟨a3, c3, rfl, hO3⟩ := d3
                        subst d4
                        subst d5
                        subst d6
                        obtain ⟨a7, c7, a7o, c7o, a7r, c7r, rfl, hO7⟩ := d7
                        obtain ⟨a8, c8, a8o, c8o, a8r, c8r, rfl, hO8⟩ := d8
                        obtain ⟨a9, c9, rfl, hO9⟩ := d9
                        obtain ⟨b13, rfl, hle13, hob13⟩ := d13
                        obtain ⟨b14, rfl, hle14, hob14⟩ := d14
                        simp only [Act.put, List.setIfInBounds_toArray, List.set_cons_zero, List.set_cons_succ] at hK
                        go_simp
                        first | exact hK.out _ _ (Below.refl _ _) ⟨_, _, rfl, hO9⟩ | (have hk := hK.out _ _ (Below.refl _ _) ⟨_, _, rfl, hO9⟩; revert hk; go_simp)
                      case pfl16 =>
                        intro f hf w1 hb1 hR
                        simp only [List.mem_cons, List.not_mem_nil, or_false] at hf
                        have d0 : x0 = .agg #[.slice ad (fX p).length cd, .int .i64 (fA p : Nat), .int .i64 (fE p : Nat)] := hR 0 (by decide) (by rfl)
                        have d1 : (IsCur W9.heap.size (fX p) (fA p : Nat) (fE p : Nat)) x1 w1 := hR 1 (by decide) (by rfl)
                        have d2 : x2 = .agg #[.slice ag (fR p).length cg, .int .u64 ((fS p).a : Nat), .int .u64 ((fS p).b : Nat), .int .u64 ((fS p).c : Nat), .int .u64 ((fS p).d : Nat)] := hR 2 (by decide) (by rfl)
                        have d3 : (IsGnE W9.heap.size (fR p) (fS p)) x3 w1 := hR 3 (by decide) (by rfl)
                        have d4 : x4 = .pointer (some ⟨wo.heap.size, 8, none⟩) := hR 4 (by decide) (by rfl)
                        have d5 : x5 = .int .i64 (m : Int) := hR 5 (by decide) (by rfl)
                        have d6 : x6 = .int .i64 (sz : Int) := hR 6 (by decide) (by rfl)
                        have d7 : (IsNxt W9.heap.size L SL X1 (q : Int) (ne : Int) R1 S1) x7 w1 := hR 7 (by decide) (by rfl)
                        have d8 : (IsNxt W9.heap.size L SL X1 (q : Int) (ne : Int) R1 S1) x8 w1 := hR 8 (by decide) (by rfl)
                        have d9 : (IsRow W9.heap.size 3 L (SL.map (Value.int .i64))) x9 w1 := hR 9 (by decide) (by rfl)
                        have d10 : (IsC X1.length (q : Int) (ne : Int)) x10 w1 := hR 10 (by decide) (by rfl)
                        have d13 : (IsObj W9.heap.size [.slice none 0 0, .int .i64 0, .int .i64 0] 73) x13 w1 := hR 13 (by decide) (by rfl)
                        have d14 : (IsObj W9.heap.size [.slice none 0 0, .int .u64 0, .int .u64 0, .int .u64 0, .int .u64 0] 27) x14 w1 := hR 14 (by decide) (by rfl)
                        have d15 : (IsRow W9.heap.size 3 L (SL.map (Value.int .i64))) x15 w1 := hR 15 (by decide) (by rfl)
                        clear hR
                        subst d0
                        obtain ⟨a1, c1, rfl, hO1⟩ := d1
                        subst d2
                        obtain ⟨a3, c3, rfl, hO3⟩ := d3
                        subst d4
                        subst d5
                        subst d6
                        obtain ⟨a7, c7, a7o, c7o, a7r, c7r, rfl, hO7⟩ := d7
                        obtain ⟨a8, c8, a8o, c8o, a8r, c8r, rfl, hO8⟩ := d8
                        obtain ⟨a9, c9, rfl, hO9⟩ := d9
                        obtain ⟨a10, c10, rfl⟩ := d10
                        obtain ⟨b13, rfl, hle13, hob13⟩ := d13
                        obtain ⟨b14, rfl, hle14, hob14⟩ := d14
                        obtain ⟨a15, c15, rfl, hO15⟩ := d15
                        rcases hf with rfl | rfl
                        · exact ⟨_, .agg #[.slice a8r R1.length c8r, .int .u64 (S1.a : Nat), .int .u64 (S1.b : Nat), .int .u64 (S1.c : Nat), .int .u64 (S1.d : Nat)], rfl, .inl ⟨by rfl, fun w => by go_simp⟩, ⟨_, _, rfl⟩, fun _ _ _ h => h⟩
                        · exact ⟨_, .int .i64 0, rfl, .inl ⟨by rfl, fun w => by go_simp⟩, rfl, fun _ _ _ h => h⟩
                      case pend16 =>
                        intro w1 hb1 hR hD
                        have d0 : x0 = .agg #[.slice ad (fX p).length cd, .int .i64 (fA p : Nat), .int .i64 (fE p : Nat)] := hR 0 (by decide)
                        have d1 : (IsCur W9.heap.size (fX p) (fA p : Nat) (fE p : Nat)) x1 w1 := hR 1 (by decide)
                        have d2 : x2 = .agg #[.slice ag (fR p).length cg, .int .u64 ((fS p).a : Nat), .int .u64 ((fS p).b : Nat), .int .u64 ((fS p).c : Nat), .int .u64 ((fS p).d : Nat)] := hR 2 (by decide)
                        have d3 : (IsGnE W9.heap.size (fR p) (fS p)) x3 w1 := hR 3 (by decide)
                        have d4 : x4 = .pointer (some ⟨wo.heap.size, 8, none⟩) := hR 4 (by decide)
                        have d5 : x5 = .int .i64 (m : Int) := hR 5 (by decide)
                        have d6 : x6 = .int .i64 (sz : Int) := hR 6 (by decide)
                        have d7 : (IsNxt W9.heap.size L SL X1 (q : Int) (ne : Int) R1 S1) x7 w1 := hR 7 (by decide)
                        have d8 : (IsNxt W9.heap.size L SL X1 (q : Int) (ne : Int) R1 S1) x8 w1 := hR 8 (by decide)
                        have d9 : (IsRow W9.heap.size 3 L (SL.map (Value.int .i64))) x9 w1 := hR 9 (by decide)
                        have d10 : (IsC X1.length (q : Int) (ne : Int)) x10 w1 := hR 10 (by decide)
                        have d11 : (IsG R1.length S1) x11 w1 := hR 11 (by decide)
                        have d12 : x12 = .int .i64 0 := hR 12 (by decide)
                        have d13 : (IsObj W9.heap.size [.slice none 0 0, .int .i64 0, .int .i64 0] 73) x13 w1 := hR 13 (by decide)
                        have d14 : (IsObj W9.heap.size [.slice none 0 0, .int .u64 0, .int .u64 0, .int .u64 0, .int .u64 0] 27) x14 w1 := hR 14 (by decide)
                        have d15 : (IsRow W9.heap.size 3 L (SL.map (Value.int .i64))) x15 w1 := hR 15 (by decide)
                        have hD13x14 : x13 ≠ x14 := hD 13 14 (by decide) (by decide) rfl rfl (by decide)
                        clear hR hD
                        subst d0
                        obtain ⟨a1, c1, rfl, hO1⟩ := d1
                        subst d2
                        obtain ⟨a3, c3, rfl, hO3⟩ := d3
                        subst d4
                        subst d5
                        subst d6
                        obtain ⟨a7, c7, a7o, c7o, a7r, c7r, rfl, hO7⟩ := d7
                        obtain ⟨a8, c8, a8o, c8o, a8r, c8r, rfl, hO8⟩ := d8
                        obtain ⟨a9, c9, rfl, hO9⟩ := d9
                        obtain ⟨a10, c10, rfl⟩ := d10
                        obtain ⟨a11, c11, rfl⟩ := d11
                        subst d12
                        obtain ⟨b13, rfl, hle13, hob13⟩ := d13
                        obtain ⟨b14, rfl, hle14, hob14⟩ := d14
                        obtain ⟨a15, c15, rfl, hO15⟩ := d15
                        replace hD13x14 : b13 ≠ b14 := fun e => hD13x14 (by rw [e])
                        try simp only [putAll, Act.put, List.setIfInBounds_toArray, List.set_cons_zero, List.set_cons_succ]
                        refine wpAny_ready (rs := [16]) (by kernel_rfl) (by simp) (AllReady.cons rfl (fun KK hK => ?_) AllReady.nil)
                        have FT := F9.out.join2 (Fr.two hb1 hle13 hob13 hle14 hob14 hD13x14 hO15 (by decide) (by decide))
                        simp only [List.cons_append, List.nil_append, List.append_nil] at FT
                        have t5_0 := FT.c 5 0 rfl rfl
                        have t5_1 := FT.c 5 1 rfl rfl
                        have t5_2 := FT.c 5 2 rfl rfl
                        have tf5_0 := FT.f 5 0 rfl rfl
                        have tf5_1 := FT.f 5 1 rfl rfl
                        have tf5_2 := FT.f 5 2 rfl rfl
                        go_simp
                        refine hK _ _ ?_
                        clear hK KK
                        try simp only [putAll, Act.put, List.setIfInBounds_toArray, List.set_cons_zero, List.set_cons_succ]
                        refine wpAny_ready (rs := [17]) (by kernel_rfl) (by simp) (AllReady.cons rfl (fun KK hK => ?_) AllReady.nil)
                        have FU := FT.set 5 rfl (by simp) [.slice a10 X1.length c10, .int .i64 (q : Int), .int .i64 (ne : Int)] rfl
                        simp only [setL, Nat.reduceAdd, List.set_cons_zero, List.set_cons_succ] at FU
                        have u6_0 := FU.c 6 0 rfl rfl
                        have u6_1 := FU.c 6 1 rfl rfl
                        have u6_2 := FU.c 6 2 rfl rfl
                        have u6_3 := FU.c 6 3 rfl rfl
                        have u6_4 := FU.c 6 4 rfl rfl
                        have uf6_0 := FU.f 6 0 rfl rfl
                        have uf6_1 := FU.f 6 1 rfl rfl
                        have uf6_2 := FU.f 6 2 rfl rfl
                        have uf6_3 := FU.f 6 3 rfl rfl
                        have uf6_4 := FU.f 6 4 rfl rfl
                        go_simp
                        refine hK _ _ ?_
                        clear hK KK
                        try simp only [putAll, Act.put, List.setIfInBounds_toArray, List.set_cons_zero, List.set_cons_succ]
                        refine wpAny_ready (rs := [18]) (by kernel_rfl) (by simp) (AllReady.cons rfl (fun KK hK => ?_) AllReady.nil)
                        go_simp
                        refine hK _ _ ?_
                        clear hK KK
                        try simp only [putAll, Act.put, List.setIfInBounds_toArray, List.set_cons_zero, List.set_cons_succ]
                        refine wpAny_done (by kernel_rfl) ?_ _
                        have FV := Lib.hid (FU.set 6 rfl (by simp) [.slice a11 R1.length c11, .int .u64 (S1.a : Nat), .int .u64 (S1.b : Nat), .int .u64 (S1.c : Nat), .int .u64 (S1.d : Nat)] rfl)
                        simp only [List.set_cons_zero, List.set_cons_succ] at FV
                        obtain ⟨WB, hWB⟩ : ∃ WB, setL (setL w1 b13 0 [.slice a10 X1.length c10, .int .i64 (q : Int), .int .i64 (ne : Int)]) b14 0 [.slice a11 R1.length c11, .int .u64 (S1.a : Nat), .int .u64 (S1.b : Nat), .int .u64 (S1.c : Nat), .int .u64 (S1.d : Nat)] = WB := ⟨_, rfl⟩
                        simp only [setL, Nat.reduceAdd] at hWB FV
                        rw [hWB] at FV ⊢
                        clear hWB FU FT F9 hle13 hob13 hle14 hob14 hD13x14 hO15 hO9 hO8 hO7 hO3 hO1 hb1 t5_0 t5_1 t5_2 tf5_0 tf5_1 tf5_2 u6_0 u6_1 u6_2 u6_3 u6_4 uf6_0 uf6_1 uf6_2 uf6_3 uf6_4
                        clear HIX9 HIR9 HCALL HXLEN HRLEN HWFR
                        skip
                        have HEQ : Hid (∀ (W : World) (a a2 : Option Addr) (c c2 : Nat), Ints .i64 W W.heap.size a SL → Ints .i64 W W.heap.size a2 SL → Calls Try.prog 34 #[.slice a L c, .slice a2 L c2] W fun e w2 => e = .returned (.bool true) ∧ Below W.heap.size W w2) := Lib.hid (fun W a a2 c c2 h h2 => by have := eqNumbers_same a a2 c c2 _ SL W h h2; rw [HSL.out] at this; exact this)
                        obtain ⟨a0, c0, he, hsh⟩ := own_shape (FV.out.r 3 rfl)
                        simp only [Value.slice.injEq] at he
                        obtain ⟨rfl, _, rfl⟩ := he
                        obtain ⟨gb, rfl, _⟩ := hsh.resolve_left (by simp; omega)
                        clear hsh
                        have HTK : Hid (X1.take p ++ SL = X1.take (p + L)) := Lib.hid (by rw [← HSLE.out, List.take_add])
                        have v0_0 := FV.out.c 0 0 rfl rfl
                        have v0_1 := FV.out.c 0 1 rfl rfl
                        have v0_2 := FV.out.c 0 2 rfl rfl
                        have v0_3 := FV.out.c 0 3 rfl rfl
                        have v0_4 := FV.out.c 0 4 rfl rfl
                        have v0_5 := FV.out.c 0 5 rfl rfl
                        have v0_6 := FV.out.c 0 6 rfl rfl
                        have v0_7 := FV.out.c 0 7 rfl rfl
                        have v0_8 := FV.out.c 0 8 rfl rfl
                        have v0_9 := FV.out.c 0 9 rfl rfl
                        have v3_0 := FV.out.c 3 0 rfl rfl
                        have v3_1 := FV.out.c 3 1 rfl rfl
                        have v3_2 := FV.out.c 3 2 rfl rfl
                        go_upto_region 17 with fail
                        go_cut [133] from 102 to 138 (fun s133 wx => s133 = .bool false ∧ Hid (Fr wo.heap.size wo wx [(wo.heap.size, [.slice aX xs.length cX, .int .i64 at_, .int .i64 ep, .slice aR rs.length cR, .int .u64 (s.a : Nat), .int .u64 (s.b : Nat), .int .u64 (s.c : Nat), .int .u64 (s.d : Nat), .int .i64 (m : Int), .int .i64 z]), (C, [.slice ad (fX p).length cd, .int .i64 (fA p : Nat), .int .i64 (fE p : Nat)]), (C + 1, [.slice ag (fR p).length cg, .int .u64 ((fS p).a : Nat), .int .u64 ((fS p).b : Nat), .int .u64 ((fS p).c : Nat), .int .u64 ((fS p).d : Nat)]), (D, [.slice bo X1.length do_, .int .i64 (q : Int), .int .i64 (ne : Int)]), (D + 1, [.slice br R1.length dr, .int .u64 (S1.a : Nat), .int .u64 (S1.b : Nat), .int .u64 (S1.c : Nat), .int .u64 (S1.d : Nat)]), (b13, [.slice a10 X1.length c10, .int .i64 (q : Int), .int .i64 (ne : Int)]), (b14, [.slice a11 R1.length c11, .int .u64 (S1.a : Nat), .int .u64 (S1.b : Nat), .int .u64 (S1.c : Nat), .int .u64 (S1.d : Nat)])] [(.u64, aR, rs)] [⟨3, .slice al p cl, p, (X1.take p).map (Value.int .i64)⟩, ⟨3, .slice bo X1.length do_, X1.length, X1.map (Value.int .i64)⟩, ⟨24, .slice br R1.length dr, R1.length, R1.map (Value.int .u64)⟩, ⟨3, .slice (some ⟨gb, 0, none⟩) L di, L, SL.map (Value.int .i64)⟩, ⟨3, .slice a15 L c15, L, SL.map (Value.int .i64)⟩] []))
                        case first =>
                          go_wp2_with (first | (go_at_call 51; refine (num31_any _ _).mono ?_; rintro e w' ⟨rfl, rfl⟩) | (go_at_call 34; refine (HEQ.out _ (some ⟨gb, 0, none⟩) a15 di c15 (FV.out.li 3 (k := .i64) (xs := SL) rfl HWS.out) (FV.out.li 4 (k := .i64) (xs := SL) rfl HWS.out)).mono ?_; rintro e w9 ⟨rfl, hb⟩; have FW := Lib.hid (FV.out.next hb); clear hb FV v0_0 v0_1 v0_2 v0_3 v0_4 v0_5 v0_6 v0_7 v0_8 v0_9 v3_0 v3_1 v3_2; have y0_0 := FW.out.c 0 0 rfl rfl; have y0_1 := FW.out.c 0 1 rfl rfl; have y0_2 := FW.out.c 0 2 rfl rfl; have y0_3 := FW.out.c 0 3 rfl rfl; have y0_4 := FW.out.c 0 4 rfl rfl; have y0_5 := FW.out.c 0 5 rfl rfl; have y0_6 := FW.out.c 0 6 rfl rfl; have y0_7 := FW.out.c 0 7 rfl rfl; have y0_8 := FW.out.c 0 8 rfl rfl; have y0_9 := FW.out.c 0 9 rfl rfl; have y3_0 := FW.out.c 3 0 rfl rfl; have y3_1 := FW.out.c 3 1 rfl rfl; have y3_2 := FW.out.c 3 2 rfl rfl))
                          all_goals (go_meet; refine ⟨?_, FW⟩; first | rfl | (exfalso; have := HLM.out; omega))
                        case rest =>
                          obtain ⟨rfl, FW⟩ := hcut
                          go_upto_region 19 with fail
                          have HRO : Hid (wc.ownsRow wo.heap.size 3 1 (.slice al p cl) p ((X1.take p).map (Value.int .i64))) := Lib.hid (FW.out.r 0 rfl)
                          have hrb : wc.ownsRow wo.heap.size 3 1 (.slice (some ⟨gb, 0, none⟩) L di) L (SL.map (Value.int .i64)) := FW.out.r 3 rfl
                          have HCE : Hid (∀ j u, (SL.map (Value.int .i64))[j]? = some u → wc.cell? ((⟨gb, 0, none⟩ : Addr).add j) = some u) := Lib.hid (hrb.cells rfl)
                          have hpl2 : p + L ≤ 1000000 := by omega
                          have hwo := FW.out.hlo
                          clear hrb
                          go_upto_region 20 with (at_builtin; go_loud ((refine appendL wo.heap.size (.slice al p cl) p (X1.take p) SL ⟨gb, 0, none⟩ L di _ _ rfl rfl rfl HRO.out rfl HSL.out HCE.out hpl2 hwo ?_); intro v2 w10 hown hgr hob; rw [HTK.out, ← HQ.out] at hown; obtain ⟨al2, cl2, rfl, _⟩ := own_shape hown; have FX := Lib.hid (FW.out.wroteO 0 rfl hgr hown (fun g hg => by rcases hob with h | h; exact .inl (h.symm.trans hg); exact .inr (by have h5 := h.symm.trans hg; injection h5 with h5; omega))); simp only [List.set_cons_zero] at FX; clear hown hgr hob FW))
                          have x1_0 := FX.out.c 1 0 rfl rfl
                          have x1_1 := FX.out.c 1 1 rfl rfl
                          have x1_2 := FX.out.c 1 2 rfl rfl
                          have x3_0 := FX.out.c 3 0 rfl rfl
                          have x3_1 := FX.out.c 3 1 rfl rfl
                          have x3_2 := FX.out.c 3 2 rfl rfl
                          have xf1_0 := FX.out.f 1 0 rfl rfl
                          have xf1_1 := FX.out.f 1 1 rfl rfl
                          have xf1_2 := FX.out.f 1 2 rfl rfl
                          go_upto_region 21 with fail
                          have FY := Lib.hid (FX.out.set 1 rfl (by simp) [.slice bo X1.length do_, .int .i64 (q : Int), .int .i64 (ne : Int)] rfl)
                          simp only [List.set_cons_zero, List.set_cons_succ] at FY
                          obtain ⟨W12, hW12⟩ : ∃ W12, setL w10 C 0 [.slice bo X1.length do_, .int .i64 (q : Int), .int .i64 (ne : Int)] = W12 := ⟨_, rfl⟩
                          rw [hW12] at FY
                          simp only [setL, Nat.reduceAdd] at hW12
                          rw [hW12]
                          clear hW12 FX x1_0 x1_1 x1_2 x3_0 x3_1 x3_2 xf1_0 xf1_1 xf1_2
                          have x2_0 := FY.out.c 2 0 rfl rfl
                          have x2_1 := FY.out.c 2 1 rfl rfl
                          have x2_2 := FY.out.c 2 2 rfl rfl
                          have x2_3 := FY.out.c 2 3 rfl rfl
                          have x2_4 := FY.out.c 2 4 rfl rfl
                          have x4_0 := FY.out.c 4 0 rfl rfl
                          have x4_1 := FY.out.c 4 1 rfl rfl
                          have x4_2 := FY.out.c 4 2 rfl rfl
                          have x4_3 := FY.out.c 4 3 rfl rfl
                          have x4_4 := FY.out.c 4 4 rfl rfl
                          have xf2_0 := FY.out.f 2 0 rfl rfl
                          have xf2_1 := FY.out.f 2 1 rfl rfl
                          have xf2_2 := FY.out.f 2 2 rfl rfl
                          have xf2_3 := FY.out.f 2 3 rfl rfl
                          have xf2_4 := FY.out.f 2 4 rfl rfl
                          go_wp2
                          have FZ := Lib.hid (FY.out.set 2 rfl (by simp) [.slice br R1.length dr, .int .u64 (S1.a : Nat), .int .u64 (S1.b : Nat), .int .u64 (S1.c : Nat), .int .u64 (S1.d : Nat)] rfl)
                          simp only [List.set_cons_zero, List.set_cons_succ] at FZ
                          obtain ⟨W13, hW13⟩ : ∃ W13, setL W12 (C + 1) 0 [.slice br R1.length dr, .int .u64 (S1.a : Nat), .int .u64 (S1.b : Nat), .int .u64 (S1.c : Nat), .int .u64 (S1.d : Nat)] = W13 := ⟨_, rfl⟩
                          rw [hW13] at FZ
                          simp only [setL, Nat.reduceAdd] at hW13
                          rw [hW13]
                          clear hW13 FY x2_0 x2_1 x2_2 x2_3 x2_4 x4_0 x4_1 x4_2 x4_3 x4_4 xf2_0 xf2_1 xf2_2 xf2_3 xf2_4
                          have HWXX := Lib.hid (FZ.out.li 1 (k := .i64) (xs := X1) rfl HWX.out)
                          have HWRR := Lib.hid (FZ.out.li 2 (k := .u64) (xs := R1) rfl (wf_of_bounds HPN1.out.g.2.2))
                          have HCAP := Lib.hid (own_cap2 (FZ.out.r 2 rfl))
                          go_roundw
                          case rel =>
                            obtain ⟨g1, g2, g3, g4, g5⟩ := H1.out q (by have := HQ.out; omega)
                            refine ⟨q, hqm, al2, cl2, rfl, bo, do_, br, dr, ?_⟩
                            rw [g1, g2, g3, g4, g5]
                            exact ⟨HCAP, HWXX, HWRR, Lib.hid (FZ.out.less (by simp) (List.Sublist.refl _) (by simp) (List.Sublist.refl _))⟩
                          case measure => have := HQ.out; (try simp only [slLen_slice]); omega
                    · obtain rfl : m = p := by omega
                      obtain ⟨g1, g2, g3, g4, g5⟩ := H1.out m (by omega)
                      rw [g1, g2, g3, g4, g5] at FP
                      rw [g1] at HIX
                      rw [g4] at HIR HCG
                      rw [List.take_of_length_le (show X1.length ≤ m by have := HX1.out; omega)] at FP
                      clear g1 g2 g3 g4 g5
                      obtain ⟨a0, c0, he, hsh⟩ := own_shape (FP.out.r 0 rfl)
                      simp only [Value.slice.injEq] at he
                      obtain ⟨rfl, _, rfl⟩ := he
                      obtain ⟨gl, rfl, _⟩ := hsh.resolve_left (by simp; have := HX1.out; omega)
                      clear hsh
                      have m0_0 := FP.out.c 0 0 rfl rfl
                      have m0_1 := FP.out.c 0 1 rfl rfl
                      have m0_2 := FP.out.c 0 2 rfl rfl
                      have m0_3 := FP.out.c 0 3 rfl rfl
                      have m0_4 := FP.out.c 0 4 rfl rfl
                      have m0_5 := FP.out.c 0 5 rfl rfl
                      have m0_6 := FP.out.c 0 6 rfl rfl
                      have m0_7 := FP.out.c 0 7 rfl rfl
                      have m0_8 := FP.out.c 0 8 rfl rfl
                      have m0_9 := FP.out.c 0 9 rfl rfl
                      obtain ⟨gs, hgs⟩ : ∃ x, wr.heap.size = x := ⟨_, rfl⟩
                      go_upto_region 23 with (at_make; (refine wpl_makeV 85 4 (.bool false) 1 (by omega) rfl infoBool Try.underlying85 wr.heap.size m _ _ _ _ rfl rfl rfl rfl rfl rfl (by omega) (Nat.le_refl _) ?_); intro w1 hown hgrow _; have FS := Lib.hid (FP.out.addO (hgrow _ (Nat.le_refl _)) hown); have HIXS := Lib.hid (HIX.out.below (hgrow _ (Nat.le_refl _)) (Nat.le_refl _)); have HIRS := Lib.hid (HIR.out.below (hgrow _ (Nat.le_refl _)) (Nat.le_refl _)); clear hown hgrow)
                      simp only [List.cons_append, List.nil_append, hgs] at FS
                      rw [hgs] at HIXS HIRS
                      (try simp only [hgs])
                      clear hgs FP HIX HIR m0_0 m0_1 m0_2 m0_3 m0_4 m0_5 m0_6 m0_7 m0_8 m0_9
                      go_wp2
                      go_loopw [20] (fun i wr => ∃ k : Nat, k ≤ m ∧ i = .int .i64 k ∧ Hid (Ints .i64 wr gs ad X1) ∧ Hid (Ints .u64 wr gs ag R1) ∧ Hid (Fr wo.heap.size wo wr [(wo.heap.size, [.slice aX xs.length cX, .int .i64 at_, .int .i64 ep, .slice aR rs.length cR, .int .u64 (s.a : Nat), .int .u64 (s.b : Nat), .int .u64 (s.c : Nat), .int .u64 (s.d : Nat), .int .i64 (m : Int), .int .i64 z]), (C, [.slice ad X1.length cd, .int .i64 (m : Int), .int .i64 (ne : Int)]), (C + 1, [.slice ag R1.length cg, .int .u64 (S1.a : Nat), .int .u64 (S1.b : Nat), .int .u64 (S1.c : Nat), .int .u64 (S1.d : Nat)])] [(.u64, aR, rs)] [⟨3, .slice (some ⟨gl, 0, none⟩) m cl, m, X1.map (Value.int .i64)⟩, ⟨4, .slice (some ⟨gs, 0, none⟩) m m, m, seenV m (X1.take k)⟩] [])) (fun i _ => m - (intOf i).toNat)
                      case atStart => exact ⟨0, Nat.zero_le _, rfl, HIXS, HIRS, Lib.hid (by rw [List.take_zero, seenV_nil]; exact FS.out)⟩
                      case round =>
                        clear FS HIXS HIRS
                        obtain ⟨k, hk, rfl, HIX, HIR, FK⟩ := hrel
                        obtain ⟨wk, rfl⟩ : ∃ wk : World, wk = wr := ⟨_, rfl⟩
                        by_cases hkl : k < m
                        · skip
                          have hkx : k < X1.length := by have := HX1.out; omega
                          have hbd := HOX1.out.bnd _ (List.getElem_mem hkx)
                          have htk := take_snoc X1 k hkx
                          have hnd := HOX1.out.nodup
                          have hmm : (X1.map (Value.int .i64))[k]? = some (.int .i64 X1[k]) := by rw [List.getElem?_map, List.getElem?_eq_getElem hkx]; rfl
                          have hnm : ¬ X1[k] ∈ X1.take k := by
                            intro hin
                            obtain ⟨i, hi, he⟩ := List.getElem_of_mem hin
                            rw [List.length_take] at hi
                            rw [List.getElem_take] at he
                            have := HOX1.out.inj i k (by omega) hkl (by rw [List.getElem?_eq_getElem (by omega), List.getElem?_eq_getElem hkx, he])
                            omega
                          obtain ⟨V, hV⟩ : ∃ V, X1[k] = V := ⟨_, rfl⟩
                          rw [hV] at hbd htk hmm hnm
                          clear hV hnd
                          obtain ⟨v, rfl⟩ : ∃ v : Nat, V = v := ⟨V.toNat, by omega⟩
                          have hvp : v < m := by omega
                          have HM := Lib.hid hmm
                          have HTK := Lib.hid htk
                          have HSV : Hid ((seenV m (X1.take k))[v]? = some (.bool false)) := Lib.hid (by rw [seenV_get _ _ _ hvp]; simp [hnm])
                          clear hbd htk hmm hnm hkx
                          have FKD := Lib.hid FK.out.drew
                          have HBD : Hid (Below gs wk wk.drew) := Lib.hid (Below.drew (Below.refl _ _))
                          go_upto_region 26 with fail
                          refine wp_region_inv (w := wk) 23 (fun _ _ => True) (fun _ W => (Fr wo.heap.size wo W [(wo.heap.size, [.slice aX xs.length cX, .int .i64 at_, .int .i64 ep, .slice aR rs.length cR, .int .u64 (s.a : Nat), .int .u64 (s.b : Nat), .int .u64 (s.c : Nat), .int .u64 (s.d : Nat), .int .i64 (m : Int), .int .i64 z]), (C, [.slice ad X1.length cd, .int .i64 (m : Int), .int .i64 (ne : Int)]), (C + 1, [.slice ag R1.length cg, .int .u64 (S1.a : Nat), .int .u64 (S1.b : Nat), .int .u64 (S1.c : Nat), .int .u64 (S1.d : Nat)])] [(.u64, aR, rs)] [⟨3, .slice (some ⟨gl, 0, none⟩) m cl, m, X1.map (Value.int .i64)⟩, ⟨4, .slice (some ⟨gs, 0, none⟩) m m, m, seenV m (X1.take k)⟩] []) ∧ Below gs wk W) [] [(fun u _ => u = .slice (some ⟨gl, 0, none⟩) m cl), (fun u _ => u = .int .i64 (k : Int)), (fun u _ => u = .pointer (some ⟨gl, k, none⟩)), (fun u _ => u = .int .i64 (v : Int)), (fun u _ => u = .bool false), (fun u _ => u = .bool false), (fun u _ => u = .slice (some ⟨gl, 0, none⟩) m cl), (fun u _ => u = .int .i64 (k : Int)), (fun u _ => u = .pointer (some ⟨gl, k, none⟩)), (fun u _ => u = .int .i64 (v : Int)), (fun u _ => u = .pointer (some ⟨wo.heap.size, 8, none⟩)), (fun u _ => u = .int .i64 (m : Int)), (fun u _ => u = .bool false), (fun u _ => u = .bool false), (fun u _ => u = .bool false), (fun u _ => u = .slice (some ⟨gs, 0, none⟩) m m), (fun u _ => u = .slice (some ⟨gl, 0, none⟩) m cl), (fun u _ => u = .int .i64 (k : Int)), (fun u _ => u = .pointer (some ⟨gl, k, none⟩)), (fun u _ => u = .int .i64 (v : Int)), (fun u _ => u = .pointer (some ⟨gs, v, none⟩)), (fun u _ => u = .bool false), (fun u _ => u = .bool false)] [some 148, some 149, some 150, some 151, some 152, some 153, some 154, some 155, some 156, some 157, some 158, some 159, some 160, some 161, some 162, some 163, some 164, some 165, some 166, some 167, some 168, some 169, some 170] (by kernel_rfl) (by kernel_rfl) rfl (by kernel_rfl) (by kernel_rfl) (by decide) (by decide) (fun _ _ => trivial) trivial ⟨FKD.out, HBD.out⟩ (BorneAll.at (.cons (borne_eq _) (.cons (borne_eq _) (.cons (borne_eq _) (.cons (borne_eq _) (.cons (borne_eq _) (.cons (borne_eq _) (.cons (borne_eq _) (.cons (borne_eq _) (.cons (borne_eq _) (.cons (borne_eq _) (.cons (borne_eq _) (.cons (borne_eq _) (.cons (borne_eq _) (.cons (borne_eq _) (.cons (borne_eq _) (.cons (borne_eq _) (.cons (borne_eq _) (.cons (borne_eq _) (.cons (borne_eq _) (.cons (borne_eq _) (.cons (borne_eq _) (.cons (borne_eq _) (.cons (borne_eq _) .nil)))))))))))))))))))))))) (fun vs b hvl hvb => ?_)
                          obtain ⟨x0, x1, x2, x3, x4, x5, x6, x7, x8, x9, x10, x11, x12, x13, x14, x15, x16, x17, x18, x19, x20, x21, x22, rfl⟩ : ∃ x0 x1 x2 x3 x4 x5 x6 x7 x8 x9 x10 x11 x12 x13 x14 x15 x16 x17 x18 x19 x20 x21 x22, vs = [x0, x1, x2, x3, x4, x5, x6, x7, x8, x9, x10, x11, x12, x13, x14, x15, x16, x17, x18, x19, x20, x21, x22] := lst23 hvl
                          clear hvl
                          simp only [putAll, Act.put, List.setIfInBounds_toArray, List.set_cons_zero, List.set_cons_succ] at hvb
                          subst hvb
                          refine ⟨(.snoc (.snoc (.snoc (.snoc (.snoc (.snoc (.snoc (.snoc (.snoc (.snoc (.snoc (.snoc (.snoc (.snoc (.snoc (.snoc (.snoc (.snoc (.snoc (.snoc (.snoc (.snoc (.snoc .zero (InvOb.intro (d := (some 148)) (r := fun u _ => u = .slice (some ⟨gl, 0, none⟩) m cl) 0 0 rfl rfl rfl (by kernel_rfl) (by kernel_rfl) rfl ?io26x0)) (InvOb.intro (d := (some 149)) (r := fun u _ => u = .int .i64 (k : Int)) 0 0 rfl rfl rfl (by kernel_rfl) (by kernel_rfl) rfl ?io26x1)) (InvOb.intro (d := (some 150)) (r := fun u _ => u = .pointer (some ⟨gl, k, none⟩)) 0 0 rfl rfl rfl (by kernel_rfl) (by kernel_rfl) rfl ?io26x2)) (InvOb.intro (d := (some 151)) (r := fun u _ => u = .int .i64 (v : Int)) 0 0 rfl rfl rfl (by kernel_rfl) (by kernel_rfl) rfl ?io26x3)) (InvOb.intro (d := (some 152)) (r := fun u _ => u = .bool false) 0 0 rfl rfl rfl (by kernel_rfl) (by kernel_rfl) rfl ?io26x4)) (InvOb.intro (d := (some 153)) (r := fun u _ => u = .bool false) 0 0 rfl rfl rfl (by kernel_rfl) (by kernel_rfl) rfl ?io26x5)) (InvOb.intro (d := (some 154)) (r := fun u _ => u = .slice (some ⟨gl, 0, none⟩) m cl) 0 0 rfl rfl rfl (by kernel_rfl) (by kernel_rfl) rfl ?io26x6)) (InvOb.intro (d := (some 155)) (r := fun u _ => u = .int .i64 (k : Int)) 0 0 rfl rfl rfl (by kernel_rfl) (by kernel_rfl) rfl ?io26x7)) (InvOb.intro (d := (some 156)) (r := fun u _ => u = .pointer (some ⟨gl, k, none⟩)) 0 0 rfl rfl rfl (by kernel_rfl) (by kernel_rfl) rfl ?io26x8)) (InvOb.intro (d := (some 157)) (r := fun u _ => u = .int .i64 (v : Int)) 0 0 rfl rfl rfl (by kernel_rfl) (by kernel_rfl) rfl ?io26x9)) (InvOb.intro (d := (some 158)) (r := fun u _ => u = .pointer (some ⟨wo.heap.size, 8, none⟩)) 0 0 rfl rfl rfl (by kernel_rfl) (by kernel_rfl) rfl ?io26x10)) (InvOb.intro (d := (some 159)) (r := fun u _ => u = .int .i64 (m : Int)) 0 0 rfl rfl rfl (by kernel_rfl) (by kernel_rfl) rfl ?io26x11)) (InvOb.intro (d := (some 160)) (r := fun u _ => u = .bool false) 0 0 rfl rfl rfl (by kernel_rfl) (by kernel_rfl) rfl ?io26x12)) (InvOb.intro (d := (some 161)) (r := fun u _ => u = .bool false) 0 0 rfl rfl rfl (by kernel_rfl) (by kernel_rfl) rfl ?io26x13)) (InvOb.intro (d := (some 162)) (r := fun u _ => u = .bool false) 0 0 rfl rfl rfl (by kernel_rfl) (by kernel_rfl) rfl ?io26x14)) (InvOb.intro (d := (some 163)) (r := fun u _ => u = .slice (some ⟨gs, 0, none⟩) m m) 0 0 rfl rfl rfl (by kernel_rfl) (by kernel_rfl) rfl ?io26x15)) (InvOb.intro (d := (some 164)) (r := fun u _ => u = .slice (some ⟨gl, 0, none⟩) m cl) 0 0 rfl rfl rfl (by kernel_rfl) (by kernel_rfl) rfl ?io26x16)) (InvOb.intro (d := (some 165)) (r := fun u _ => u = .int .i64 (k : Int)) 0 0 rfl rfl rfl (by kernel_rfl) (by kernel_rfl) rfl ?io26x17)) (InvOb.intro (d := (some 166)) (r := fun u _ => u = .pointer (some ⟨gl, k, none⟩)) 0 0 rfl rfl rfl (by kernel_rfl) (by kernel_rfl) rfl ?io26x18)) (InvOb.intro (d := (some 167)) (r := fun u _ => u = .int .i64 (v : Int)) 0 0 rfl rfl rfl (by kernel_rfl) (by kernel_rfl) rfl ?io26x19)) (InvOb.intro (d := (some 168)) (r := fun u _ => u = .pointer (some ⟨gs, v, none⟩)) 0 0 rfl rfl rfl (by kernel_rfl) (by kernel_rfl) rfl ?io26x20)) (InvOb.intro (d := (some 169)) (r := fun u _ => u = .bool false) 0 0 rfl rfl rfl (by kernel_rfl) (by kernel_rfl) rfl ?io26x21)) (InvOb.intro (d := (some 170)) (r := fun u _ => u = .bool false) 0 0 rfl rfl rfl (by kernel_rfl) (by kernel_rfl) rfl ?io26x22)), ?iend26⟩
                          case io26x0 =>
                            intro k1 w1 hk0 hk1 hb1 hS hd KK hK
                            clear hd
                            simp only [Act.put, List.setIfInBounds_toArray, List.set_cons_zero, List.set_cons_succ] at hK
                            go_simp
                            first | exact hK.out _ _ trivial hS rfl | (have hk := hK.out _ _ trivial hS rfl; revert hk; go_simp)
                          case io26x1 =>
                            intro k1 w1 hk0 hk1 hb1 hS hd KK hK
                            clear hd
                            simp only [Act.put, List.setIfInBounds_toArray, List.set_cons_zero, List.set_cons_succ] at hK
                            go_simp
                            first | exact hK.out _ _ trivial hS rfl | (have hk := hK.out _ _ trivial hS rfl; revert hk; go_simp)
                          case io26x2 =>
                            intro k1 w1 hk0 hk1 hb1 hS hd KK hK
                            have d0 : x0 = .slice (some ⟨gl, 0, none⟩) m cl := hd 0 (by kernel_rfl)
                            have d1 : x1 = .int .i64 (k : Int) := hd 1 (by kernel_rfl)
                            clear hd
                            subst d0
                            subst d1
                            simp only [Act.put, List.setIfInBounds_toArray, List.set_cons_zero, List.set_cons_succ] at hK
                            go_simp
                            first | exact hK.out _ _ trivial hS rfl | (have hk := hK.out _ _ trivial hS rfl; revert hk; go_simp)
                          case io26x3 =>
                            intro k1 w1 hk0 hk1 hb1 hS hd KK hK
                            have d2 : x2 = .pointer (some ⟨gl, k, none⟩) := hd 2 (by kernel_rfl)
                            clear hd
                            subst d2
                            obtain ⟨hl1, hl2⟩ := hS.1.rc 0 k rfl HM.out
                            simp only [Act.put, List.setIfInBounds_toArray, List.set_cons_zero, List.set_cons_succ] at hK
                            go_simp
                            first | exact hK.out _ _ trivial hS rfl | (have hk := hK.out _ _ trivial hS rfl; revert hk; go_simp)
                          case io26x4 =>
                            intro k1 w1 hk0 hk1 hb1 hS hd KK hK
                            have d3 : x3 = .int .i64 (v : Int) := hd 3 (by kernel_rfl)
                            clear hd
                            subst d3
                            simp only [Act.put, List.setIfInBounds_toArray, List.set_cons_zero, List.set_cons_succ] at hK
                            go_simp
                            first | exact hK.out _ _ trivial hS rfl | (have hk := hK.out _ _ trivial hS rfl; revert hk; go_simp)
                          case io26x5 =>
                            intro k1 w1 hk0 hk1 hb1 hS hd KK hK
                            have d4 : x4 = .bool false := hd 4 (by kernel_rfl)
                            clear hd
                            subst d4
                            simp only [Act.put, List.setIfInBounds_toArray, List.set_cons_zero, List.set_cons_succ] at hK
                            go_simp
                            first | exact hK.out _ _ trivial hS rfl | (have hk := hK.out _ _ trivial hS rfl; revert hk; go_simp)
                          case io26x6 =>
                            intro k1 w1 hk0 hk1 hb1 hS hd KK hK
                            have d5 : x5 = .bool false := hd 5 (by kernel_rfl)
                            clear hd
                            subst d5
                            simp only [Act.put, List.setIfInBounds_toArray, List.set_cons_zero, List.set_cons_succ] at hK
                            go_simp
                            first | exact hK.out _ _ trivial hS rfl | (have hk := hK.out _ _ trivial hS rfl; revert hk; go_simp)
                          case io26x7 =>
                            intro k1 w1 hk0 hk1 hb1 hS hd KK hK
                            have d5 : x5 = .bool false := hd 5 (by kernel_rfl)
                            clear hd
                            subst d5
                            simp only [Act.put, List.setIfInBounds_toArray, List.set_cons_zero, List.set_cons_succ] at hK
                            go_simp
                            first | exact hK.out _ _ trivial hS rfl | (have hk := hK.out _ _ trivial hS rfl; revert hk; go_simp)
                          case io26x8 =>
                            intro k1 w1 hk0 hk1 hb1 hS hd KK hK
                            have d5 : x5 = .bool false := hd 5 (by kernel_rfl)
                            have d6 : x6 = .slice (some ⟨gl, 0, none⟩) m cl := hd 6 (by kernel_rfl)
                            have d7 : x7 = .int .i64 (k : Int) := hd 7 (by kernel_rfl)
                            clear hd
                            subst d5
                            subst d6
                            subst d7
                            simp only [Act.put, List.setIfInBounds_toArray, List.set_cons_zero, List.set_cons_succ] at hK
                            go_simp
                            first | exact hK.out _ _ trivial hS rfl | (have hk := hK.out _ _ trivial hS rfl; revert hk; go_simp)
                          case io26x9 =>
                            intro k1 w1 hk0 hk1 hb1 hS hd KK hK
                            have d5 : x5 = .bool false := hd 5 (by kernel_rfl)
                            have d8 : x8 = .pointer (some ⟨gl, k, none⟩) := hd 8 (by kernel_rfl)
                            clear hd
                            subst d5
                            subst d8
                            obtain ⟨hl1, hl2⟩ := hS.1.rc 0 k rfl HM.out
                            simp only [Act.put, List.setIfInBounds_toArray, List.set_cons_zero, List.set_cons_succ] at hK
                            go_simp
                            first | exact hK.out _ _ trivial hS rfl | (have hk := hK.out _ _ trivial hS rfl; revert hk; go_simp)
                          case io26x10 =>
                            intro k1 w1 hk0 hk1 hb1 hS hd KK hK
                            have d5 : x5 = .bool false := hd 5 (by kernel_rfl)
                            clear hd
                            subst d5
                            simp only [Act.put, List.setIfInBounds_toArray, List.set_cons_zero, List.set_cons_succ] at hK
                            go_simp
                            first | exact hK.out _ _ trivial hS rfl | (have hk := hK.out _ _ trivial hS rfl; revert hk; go_simp)
                          case io26x11 =>
                            intro k1 w1 hk0 hk1 hb1 hS hd KK hK
                            have d5 : x5 = .bool false := hd 5 (by kernel_rfl)
                            have d10 : x10 = .pointer (some ⟨wo.heap.size, 8, none⟩) := hd 10 (by kernel_rfl)
                            clear hd
                            subst d5
                            subst d10
                            have hl1 := hS.1.c 0 8 rfl rfl
                            simp only [Act.put, List.setIfInBounds_toArray, List.set_cons_zero, List.set_cons_succ] at hK
                            go_simp
                            first | exact hK.out _ _ trivial hS rfl | (have hk := hK.out _ _ trivial hS rfl; revert hk; go_simp)
                          case io26x12 =>
                            intro k1 w1 hk0 hk1 hb1 hS hd KK hK
                            have d5 : x5 = .bool false := hd 5 (by kernel_rfl)
                            have d9 : x9 = .int .i64 (v : Int) := hd 9 (by kernel_rfl)
                            have d11 : x11 = .int .i64 (m : Int) := hd 11 (by kernel_rfl)
                            clear hd
                            subst d5
                            subst d9
                            subst d11
                            have hle : ¬ (v : Int) ≥ m := by omega
                            simp only [Act.put, List.setIfInBounds_toArray, List.set_cons_zero, List.set_cons_succ] at hK
                            go_simp
                            first | exact hK.out _ _ trivial hS rfl | (have hk := hK.out _ _ trivial hS rfl; revert hk; go_simp)
                          case io26x13 =>
                            intro k1 w1 hk0 hk1 hb1 hS hd KK hK
                            have d5 : x5 = .bool false := hd 5 (by kernel_rfl)
                            have d12 : x12 = .bool false := hd 12 (by kernel_rfl)
                            clear hd
                            subst d5
                            subst d12
                            simp only [Act.put, List.setIfInBounds_toArray, List.set_cons_zero, List.set_cons_succ] at hK
                            go_simp
                            first | exact hK.out _ _ trivial hS rfl | (have hk := hK.out _ _ trivial hS rfl; revert hk; go_simp)
                          case io26x14 =>
                            intro k1 w1 hk0 hk1 hb1 hS hd KK hK
                            have d5 : x5 = .bool false := hd 5 (by kernel_rfl)
                            have d13 : x13 = .bool false := hd 13 (by kernel_rfl)
                            clear hd
                            subst d5
                            subst d13
                            simp only [Act.put, List.setIfInBounds_toArray, List.set_cons_zero, List.set_cons_succ] at hK
                            go_simp
                            first | exact hK.out _ _ trivial hS rfl | (have hk := hK.out _ _ trivial hS rfl; revert hk; go_simp)
                          case io26x15 =>
                            intro k1 w1 hk0 hk1 hb1 hS hd KK hK
                            have d14 : x14 = .bool false := hd 14 (by kernel_rfl)
                            clear hd
                            subst d14
                            simp only [Act.put, List.setIfInBounds_toArray, List.set_cons_zero, List.set_cons_succ] at hK
                            go_simp
                            first | exact hK.out _ _ trivial hS rfl | (have hk := hK.out _ _ trivial hS rfl; revert hk; go_simp)
                          case io26x16 =>
                            intro k1 w1 hk0 hk1 hb1 hS hd KK hK
                            have d14 : x14 = .bool false := hd 14 (by kernel_rfl)
                            clear hd
                            subst d14
                            simp only [Act.put, List.setIfInBounds_toArray, List.set_cons_zero, List.set_cons_succ] at hK
                            go_simp
                            first | exact hK.out _ _ trivial hS rfl | (have hk := hK.out _ _ trivial hS rfl; revert hk; go_simp)
                          case io26x17 =>
                            intro k1 w1 hk0 hk1 hb1 hS hd KK hK
                            have d14 : x14 = .bool false := hd 14 (by kernel_rfl)
                            clear hd
                            subst d14
                            simp only [Act.put, List.setIfInBounds_toArray, List.set_cons_zero, List.set_cons_succ] at hK
                            go_simp
                            first | exact hK.out _ _ trivial hS rfl | (have hk := hK.out _ _ trivial hS rfl; revert hk; go_simp)
                          case io26x18 =>
                            intro k1 w1 hk0 hk1 hb1 hS hd KK hK
                            have d14 : x14 = .bool false := hd 14 (by kernel_rfl)
                            have d16 : x16 = .slice (some ⟨gl, 0, none⟩) m cl := hd 16 (by kernel_rfl)
                            have d17 : x17 = .int .i64 (k : Int) := hd 17 (by kernel_rfl)
                            clear hd
                            subst d14
                            subst d16
                            subst d17
                            simp only [Act.put, List.setIfInBounds_toArray, List.set_cons_zero, List.set_cons_succ] at hK
                            go_simp
                            first | exact hK.out _ _ trivial hS rfl | (have hk := hK.out _ _ trivial hS rfl; revert hk; go_simp)
                          case io26x19 =>
                            intro k1 w1 hk0 hk1 hb1 hS hd KK hK
                            have d14 : x14 = .bool false := hd 14 (by kernel_rfl)
                            have d18 : x18 = .pointer (some ⟨gl, k, none⟩) := hd 18 (by kernel_rfl)
                            clear hd
                            subst d14
                            subst d18
                            obtain ⟨hl1, hl2⟩ := hS.1.rc 0 k rfl HM.out
                            simp only [Act.put, List.setIfInBounds_toArray, List.set_cons_zero, List.set_cons_succ] at hK
                            go_simp
                            first | exact hK.out _ _ trivial hS rfl | (have hk := hK.out _ _ trivial hS rfl; revert hk; go_simp)
                          case io26x20 =>
                            intro k1 w1 hk0 hk1 hb1 hS hd KK hK
                            have d14 : x14 = .bool false := hd 14 (by kernel_rfl)
                            have d15 : x15 = .slice (some ⟨gs, 0, none⟩) m m := hd 15 (by kernel_rfl)
                            have d19 : x19 = .int .i64 (v : Int) := hd 19 (by kernel_rfl)
                            clear hd
                            subst d14
                            subst d15
                            subst d19
                            simp only [Act.put, List.setIfInBounds_toArray, List.set_cons_zero, List.set_cons_succ] at hK
                            go_simp
                            first | exact hK.out _ _ trivial hS rfl | (have hk := hK.out _ _ trivial hS rfl; revert hk; go_simp)
                          case io26x21 =>
                            intro k1 w1 hk0 hk1 hb1 hS hd KK hK
                            have d14 : x14 = .bool false := hd 14 (by kernel_rfl)
                            have d20 : x20 = .pointer (some ⟨gs, v, none⟩) := hd 20 (by kernel_rfl)
                            clear hd
                            subst d14
                            subst d20
                            obtain ⟨hl1, hl2⟩ := hS.1.rc 1 v rfl HSV.out
                            simp only [Act.put, List.setIfInBounds_toArray, List.set_cons_zero, List.set_cons_succ] at hK
                            go_simp
                            first | exact hK.out _ _ trivial hS rfl | (have hk := hK.out _ _ trivial hS rfl; revert hk; go_simp)
                          case io26x22 =>
                            intro k1 w1 hk0 hk1 hb1 hS hd KK hK
                            have d14 : x14 = .bool false := hd 14 (by kernel_rfl)
                            have d21 : x21 = .bool false := hd 21 (by kernel_rfl)
                            clear hd
                            subst d14
                            subst d21
                            simp only [Act.put, List.setIfInBounds_toArray, List.set_cons_zero, List.set_cons_succ] at hK
                            go_simp
                            first | exact hK.out _ _ trivial hS rfl | (have hk := hK.out _ _ trivial hS rfl; revert hk; go_simp)
                          case iend26 =>
                            intro w1 hb1 hS hR
                            have d0 : x0 = .slice (some ⟨gl, 0, none⟩) m cl := hR 0 (by decide)
                            have d1 : x1 = .int .i64 (k : Int) := hR 1 (by decide)
                            have d2 : x2 = .pointer (some ⟨gl, k, none⟩) := hR 2 (by decide)
                            have d3 : x3 = .int .i64 (v : Int) := hR 3 (by decide)
                            have d4 : x4 = .bool false := hR 4 (by decide)
                            have d5 : x5 = .bool false := hR 5 (by decide)
                            have d6 : x6 = .slice (some ⟨gl, 0, none⟩) m cl := hR 6 (by decide)
                            have d7 : x7 = .int .i64 (k : Int) := hR 7 (by decide)
                            have d8 : x8 = .pointer (some ⟨gl, k, none⟩) := hR 8 (by decide)
                            have d9 : x9 = .int .i64 (v : Int) := hR 9 (by decide)
                            have d10 : x10 = .pointer (some ⟨wo.heap.size, 8, none⟩) := hR 10 (by decide)
                            have d11 : x11 = .int .i64 (m : Int) := hR 11 (by decide)
                            have d12 : x12 = .bool false := hR 12 (by decide)
                            have d13 : x13 = .bool false := hR 13 (by decide)
                            have d14 : x14 = .bool false := hR 14 (by decide)
                            have d15 : x15 = .slice (some ⟨gs, 0, none⟩) m m := hR 15 (by decide)
                            have d16 : x16 = .slice (some ⟨gl, 0, none⟩) m cl := hR 16 (by decide)
                            have d17 : x17 = .int .i64 (k : Int) := hR 17 (by decide)
                            have d18 : x18 = .pointer (some ⟨gl, k, none⟩) := hR 18 (by decide)
                            have d19 : x19 = .int .i64 (v : Int) := hR 19 (by decide)
                            have d20 : x20 = .pointer (some ⟨gs, v, none⟩) := hR 20 (by decide)
                            have d21 : x21 = .bool false := hR 21 (by decide)
                            have d22 : x22 = .bool false := hR 22 (by decide)
                            clear hR
                            subst d0
                            subst d1
                            subst d2
                            subst d3
                            subst d4
                            subst d5
                            subst d6
                            subst d7
                            subst d8
                            subst d9
                            subst d10
                            subst d11
                            subst d12
                            subst d13
                            subst d14
                            subst d15
                            subst d16
                            subst d17
                            subst d18
                            subst d19
                            subst d20
                            subst d21
                            subst d22
                            try simp only [putAll, Act.put, List.setIfInBounds_toArray, List.set_cons_zero, List.set_cons_succ]
                            have FL := Lib.hid (show Fr wo.heap.size wo w1 [(wo.heap.size, [.slice aX xs.length cX, .int .i64 at_, .int .i64 ep, .slice aR rs.length cR, .int .u64 (s.a : Nat), .int .u64 (s.b : Nat), .int .u64 (s.c : Nat), .int .u64 (s.d : Nat), .int .i64 (m : Int), .int .i64 z]), (C, [.slice ad X1.length cd, .int .i64 (m : Int), .int .i64 (ne : Int)]), (C + 1, [.slice ag R1.length cg, .int .u64 (S1.a : Nat), .int .u64 (S1.b : Nat), .int .u64 (S1.c : Nat), .int .u64 (S1.d : Nat)])] [(.u64, aR, rs)] [⟨3, .slice (some ⟨gl, 0, none⟩) m cl, m, X1.map (Value.int .i64)⟩, ⟨4, .slice (some ⟨gs, 0, none⟩) m m, m, seenV m (X1.take k)⟩] [] from hS.1)
                            have HBL := Lib.hid hS.2
                            clear hS hb1 FK FKD HBD
                            obtain ⟨hl1, hl2⟩ := FL.out.rc 0 k rfl HM.out
                            obtain ⟨hm1, hm2⟩ := FL.out.rc 1 v rfl HSV.out
                            have FN := Lib.hid (FL.out.put 1 v rfl (.bool true))
                            simp only [List.set_cons_zero, List.set_cons_succ] at FN
                            rw [seenV_snoc _ _ _ hvp, ← HTK.out] at FN
                            have HIX3 := Lib.hid (HIX.out.below (HBL.out.setCell (p := ⟨gs, v, none⟩) (Nat.le_refl _) (.bool true)) (Nat.le_refl _))
                            have HIR3 := Lib.hid (HIR.out.below (HBL.out.setCell (p := ⟨gs, v, none⟩) (Nat.le_refl _) (.bool true)) (Nat.le_refl _))
                            clear HBL FL HIX HIR
                            go_wp2
                            go_roundw
                            case rel => exact ⟨k + 1, by omega, by go_num, HIX3, HIR3, FN⟩
                            case measure => simp [intOf]; omega
                        · obtain rfl : m = k := by omega
                          go_wp2
                          have hgs := (FK.out.rb 1 rfl).2
                          go_roundw
                          case rel => exact ⟨ne + 1, by omega, by go_num, X1, R1, S1, _, _, ad, cd, ag, cg, HPN1, Lib.hid (HN1.out ne), HCG, Lib.hid (HIX.out.mono (Nat.le_of_lt hgs)), Lib.hid (HIR.out.mono (Nat.le_of_lt hgs)), Lib.hid (FK.out.less (List.Sublist.refl _) (List.Sublist.refl _) (by simp) (List.Sublist.refl _))⟩
                          case measure => simp [intOf]; omega
                · obtain rfl : ne = 2 := by omega
                  go_wp2
                  go_roundw
                  case rel => exact ⟨k + 1, by omega, by go_num, HB.out.trans (FE.out.bel.mono HB.out.size)⟩
                  case measure => simp [intOf]; omega
    · have HB := Lib.hid hbel
      clear hbel h
      have WK := fun W => Lib.hid (wakes31_any W)
      by_cases hlt : k < n
      · have hk15 : ¬ (k : Int) < 8 := by omega
        have hkn : (k : Int) < n := by omega
        go_wp2_with (go_at_call 53; refine ((WK _).out).mono ?_; rintro e w1 ⟨rfl, hb⟩; have HW1 := Lib.hid hb; clear hb)
        go_ret
        exact ⟨rfl, HB.out.trans (HW1.out.mono HB.out.size)⟩
      · obtain rfl : k = n := by omega
        go_wp2_with (go_at_call 53; refine ((WK _).out).mono ?_; rintro e w1 ⟨rfl, hb⟩; have HW1 := Lib.hid hb; clear hb)
        go_ret
        exact ⟨rfl, HB.out.trans (HW1.out.mono HB.out.size)⟩
end Go.Proofs.Ytiejkdnkdmanmaa
