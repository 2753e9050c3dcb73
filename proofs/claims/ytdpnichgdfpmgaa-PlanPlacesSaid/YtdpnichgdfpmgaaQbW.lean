/- Walks: buffers: checks, copies, comparisons. -/
import Derived.Test.YtdpnichgdfpmgaaQaV
import Derived.Test.YtdpnichgdfpmgaaQbP
import Derived.Deep.AppendLies
import Derived.OwnWalk
import Derived.Laws.Cover3
set_option linter.unusedVariables false
set_option linter.unusedSimpArgs false
namespace Go.Rt
open Go.RowKit
/-- n buffers that read. -/
structure BL (w : World) (hi : Nat) (a : Option Addr) (n : Nat) (L : Nat → Buf) : Prop where
  nb : n ≤ 4611686018427387903
  cell : ∀ i, i < n → ∃ b o, a = some ⟨b, o, none⟩ ∧ b < hi ∧ ∀ j v, (L i).c[j]? = some v → w.cell? ⟨b, o + i * 4 + j, none⟩ = some v
theorem BL.below {w w' : World} {hi B n : Nat} {a : Option Addr} {L : Nat → Buf} (h : BL w hi a n L) (hb : Below B w w') (hB : hi ≤ B) : BL w' hi a n L :=
  ⟨h.nb, fun i hi => by
    obtain ⟨b, o, e, hlt, hc⟩ := h.cell i hi
    exact ⟨b, o, e, hlt, fun j v hv => (hb.cell (p := ⟨b, o + i * 4 + j, none⟩) (show b < B by omega)).trans (hc j v hv)⟩⟩
theorem BL.mono {w : World} {hi hi2 n : Nat} {a : Option Addr} {L : Nat → Buf} (h : BL w hi a n L) (hB : hi ≤ hi2) : BL w hi2 a n L :=
  ⟨h.nb, fun i hi => by
    obtain ⟨b, o, e, hlt, hc⟩ := h.cell i hi
    exact ⟨b, o, e, by omega, hc⟩⟩
/-- The four cells of buffer i. -/
theorem BL.four {w : World} {hi n : Nat} {a : Option Addr} {L : Nat → Buf} (h : BL w hi a n L) {i : Nat} (hx : i < n) : ∃ b o, a = some ⟨b, o, none⟩ ∧ b < hi ∧ w.cell? ⟨b, o + i * 4, none⟩ = some (.int .i64 (L i).fr) ∧ w.cell? ⟨b, o + i * 4 + 1, none⟩ = some (.int .i64 (L i).tt) ∧ w.cell? ⟨b, o + i * 4 + 2, none⟩ = some (.int .i64 (L i).sz) ∧ w.cell? ⟨b, o + i * 4 + 3, none⟩ = some (.int .i64 (L i).pl) := by
  obtain ⟨b, o, e, hlt, hc⟩ := h.cell i hx
  exact ⟨b, o, e, hlt, by have := hc 0 _ rfl; rwa [Nat.add_zero] at this, hc 1 _ rfl, hc 2 _ rfl, hc 3 _ rfl⟩
/-- The news of an append: all buffers of a list. -/
theorem BL.news {W : World} {hi n : Nat} {b o : Nat} {L : Nat → Buf} (h : BL W hi (some ⟨b, o, none⟩) n L) : ∀ j u, (flatB4 L n)[j]? = some u → W.cell? ((⟨b, o, none⟩ : Addr).add j) = some u := by
  intro j u hj
  obtain ⟨h1, h2⟩ := flatB4_at L n j u hj
  obtain ⟨b2, o2, e, hlt, hc⟩ := h.cell (j / 4) h1
  cases e
  have := hc (j % 4) u h2
  rw [Nat.add_assoc, show j / 4 * 4 + j % 4 = j by omega] at this
  rw [Addr.add_lit]
  exact this
/-- A Bool is handed back that tells whether P. -/
def TellsB (e : Ending) (P : Prop) : Prop := ∃ B : Bool, e = .returned (.bool B) ∧ (B = true ↔ P)
theorem TellsB.yes {P : Prop} (h : P) : TellsB (.returned (.bool true)) P := ⟨true, rfl, fun _ => h, fun _ => rfl⟩
theorem TellsB.no {P : Prop} (h : ¬ P) : TellsB (.returned (.bool false)) P := ⟨false, rfl, fun h2 => (by cases h2), fun h2 => absurd h2 h⟩
end Go.Rt
namespace Go.Proofs.Ytdpnichgdfpmgaa
open Go.RowKit Go.Rt
attribute [local go_sem] Oper.semAt_some
theorem lb9 {α : Type} {l : List α} (h : l.length = 9) : ∃ x0 x1 x2 x3 x4 x5 x6 x7 x8, l = [x0, x1, x2, x3, x4, x5, x6, x7, x8] := by
  match l, h with
  | [x0, x1, x2, x3, x4, x5, x6, x7, x8], _ => exact ⟨x0, x1, x2, x3, x4, x5, x6, x7, x8, rfl⟩
set_option maxHeartbeats 2000000 in
theorem qgood_any (x1 x2 x3 x4 : Int) (w : World) : Calls Try.prog 16 #[.agg #[.int .i64 x1, .int .i64 x2, .int .i64 x3, .int .i64 x4]] w fun e w' => e = .returned (.bool (bufOk ⟨x1, x2, x3, x4⟩)) ∧ Below w.heap.size w w' := by
  have hb : Below w.heap.size w (w.alloc (.cells #[.int .i64 x1, .int .i64 x2, .int .i64 x3, .int .i64 x4] 36)) := (Below.refl _ _).alloc (Nat.le_refl _) _
  have HB := Lib.hid hb
  clear hb
  go_enter Try.func16, Try.ntmps16
  by_cases h0 : 0 ≤ x1
  · skip
    by_cases h1 : x1 ≤ x2
    · skip
      by_cases h2 : x2 < 1024
      · skip
        by_cases h3 : 1 ≤ x3
        · skip
          by_cases h4 : x3 ≤ 65536
          · skip
            go_wp2
            go_ret
            exact ⟨by rw [show bufOk ⟨x1, x2, x3, x4⟩ = true from bufOk_iff.2 ⟨h0, h1, h2, h3, h4⟩]; rfl, HB.out⟩
          · skip
            go_wp2
            go_ret
            have hf : bufOk ⟨x1, x2, x3, x4⟩ = false := by
              cases h : bufOk ⟨x1, x2, x3, x4⟩ with
              | false => rfl
              | true => (have h9 := bufOk_iff.1 h; simp only at h9; omega)
            exact ⟨by rw [hf]; rfl, HB.out⟩
        · skip
          go_wp2
          go_ret
          have hf : bufOk ⟨x1, x2, x3, x4⟩ = false := by
            cases h : bufOk ⟨x1, x2, x3, x4⟩ with
            | false => rfl
            | true => (have h9 := bufOk_iff.1 h; simp only at h9; omega)
          exact ⟨by rw [hf]; rfl, HB.out⟩
      · skip
        go_wp2
        go_ret
        have hf : bufOk ⟨x1, x2, x3, x4⟩ = false := by
          cases h : bufOk ⟨x1, x2, x3, x4⟩ with
          | false => rfl
          | true => (have h9 := bufOk_iff.1 h; simp only at h9; omega)
        exact ⟨by rw [hf]; rfl, HB.out⟩
    · skip
      go_wp2
      go_ret
      have hf : bufOk ⟨x1, x2, x3, x4⟩ = false := by
        cases h : bufOk ⟨x1, x2, x3, x4⟩ with
        | false => rfl
        | true => (have h9 := bufOk_iff.1 h; simp only at h9; omega)
      exact ⟨by rw [hf]; rfl, HB.out⟩
  · skip
    go_wp2
    go_ret
    have hf : bufOk ⟨x1, x2, x3, x4⟩ = false := by
      cases h : bufOk ⟨x1, x2, x3, x4⟩ with
      | false => rfl
      | true => (have h9 := bufOk_iff.1 h; simp only at h9; omega)
    exact ⟨by rw [hf]; rfl, HB.out⟩
theorem qgoodc_any (x1 x2 x3 x4 : Int) (w : World) : Calls Try.prog 15 #[.agg #[.int .i64 x1, .int .i64 x2, .int .i64 x3, .int .i64 x4]] w fun e w' => e = .returned (.bool (!bufOk ⟨x1, x2, x3, x4⟩)) ∧ Below w.heap.size w w' := by
  have HG := Lib.hid (fun W => qgood_any x1 x2 x3 x4 W)
  obtain ⟨B, hB⟩ : ∃ B, bufOk ⟨x1, x2, x3, x4⟩ = B := ⟨_, rfl⟩
  rw [hB] at HG ⊢
  have hb : Below w.heap.size w (w.alloc (.cells #[.int .i64 x1, .int .i64 x2, .int .i64 x3, .int .i64 x4] 36)) := (Below.refl _ _).alloc (Nat.le_refl _) _
  have HB := Lib.hid hb
  clear hb
  go_enter Try.func15, Try.ntmps15
  go_wp2_with (go_at_call 16; refine (HG.out _).mono ?_; rintro e w2 ⟨rfl, hb2⟩; have HB2 := Lib.hid (HB.out.trans (hb2.mono HB.out.size)); clear hb2 HB)
  go_ret
  exact ⟨rfl, HB2.out⟩
set_option maxHeartbeats 2000000 in
theorem qindex_any (a : Option Addr) (c n : Nat) (L : Nat → Buf) (w : World) (h : BL w w.heap.size a n L) : Calls Try.prog 23 #[.slice a n c, .func (.func 15) #[] #[]] w fun e w' => (∃ z : Int, e = .returned (.int .i64 z) ∧ (z < 0 ↔ ∀ i, i < n → bufOk (L i) = true) ∧ -1 ≤ z ∧ z ≤ 4611686018427387903) ∧ Below w.heap.size w w' := by
  have hnb := h.nb
  have HL := Lib.hid h
  have HB := Lib.hid (Below.refl w.heap.size w)
  have HG := Lib.hid (fun x1 x2 x3 x4 W => qgoodc_any x1 x2 x3 x4 W)
  clear h
  go_enter Try.func23, Try.ntmps23
  go_wp2
  go_loopw [8] (fun s8 wr => ∃ k : Nat, s8 = .int .i64 (k : Nat) ∧ k ≤ n ∧ Hid (∀ i, i < k → bufOk (L i) = true) ∧ Hid (Below w.heap.size w wr)) (fun s8 _ => n - (intOf s8).toNat)
  case atStart => exact ⟨0, rfl, Nat.zero_le _, Lib.hid (fun i hi => absurd hi (by omega)), HB⟩
  case round =>
    obtain ⟨k, rfl, hk, HA, HB1⟩ := hrel
    clear HB
    obtain ⟨wo, rfl⟩ : ∃ x : World, x = wr := ⟨_, rfl⟩
    by_cases hlt : k < n
    · skip
      have HL1 := HL.out.below HB1.out (Nat.le_refl _)
      obtain ⟨b, o, rfl, hl, d0, d1, d2, d3⟩ := HL1.four hlt
      obtain ⟨⟨x1, x2, x3, x4⟩, hL⟩ : ∃ z, L k = z := ⟨_, rfl⟩
      rw [hL] at d0 d1 d2 d3
      obtain ⟨B, hB⟩ : ∃ B, bufOk ⟨x1, x2, x3, x4⟩ = B := ⟨_, rfl⟩
      have hg := fun W => HG.out x1 x2 x3 x4 W
      rw [hB] at hg
      have HGX := Lib.hid hg
      have HOK := Lib.hid (show bufOk (L k) = B by rw [hL, hB])
      clear HL1 hL hB hg
      have hki : (k : Int) < (n : Int) := by omega
      cases B with
      | false =>
        go_wp2_with (go_at_call 15; refine (HGX.out _).mono ?_; rintro e w2 ⟨rfl, hb2⟩; have HB2 := Lib.hid (HB1.out.trans (hb2.mono HB1.out.size)); clear hb2 HB1 d0 d1 d2 d3)
        go_ret
        refine ⟨⟨_, rfl, ⟨fun hz => absurd hz (by omega), fun hall => ?_⟩, by omega, by omega⟩, HB2.out⟩
        have := hall k hlt
        rw [HOK.out] at this
        cases this
      | true =>
        have HA2 : Hid (∀ i, i < k + 1 → bufOk (L i) = true) := Lib.hid (fun i hi => by
          by_cases e9 : i = k
          · rw [e9]; exact HOK.out
          · exact HA.out i (by omega))
        go_wp2_with (go_at_call 15; refine (HGX.out _).mono ?_; rintro e w2 ⟨rfl, hb2⟩; have HB2 := Lib.hid (HB1.out.trans (hb2.mono HB1.out.size)); clear hb2 HB1 d0 d1 d2 d3)
        go_roundw
        case rel => exact ⟨k + 1, by first | rfl | go_num, by omega, HA2, HB2⟩
        case measure => (simp only [intOf]; omega)
    · obtain rfl : k = n := by omega
      go_wp2
      go_ret
      exact ⟨⟨-1, rfl, ⟨fun _ => HA.out, fun _ => by omega⟩, by omega, by omega⟩, HB1.out⟩
theorem qcontains_any (a : Option Addr) (c n : Nat) (L : Nat → Buf) (w : World) (h : BL w w.heap.size a n L) : Calls Try.prog 14 #[.slice a n c, .func (.func 15) #[] #[]] w fun e w' => (∃ B : Bool, e = .returned (.bool B) ∧ (B = false ↔ ∀ i, i < n → bufOk (L i) = true)) ∧ Below w.heap.size w w' := by
  have HI := Lib.hid (qindex_any a c n L w h)
  clear h
  go_enter Try.func14, Try.ntmps14
  go_wp2_with (go_at_call 23; refine HI.out.mono ?_; rintro e w2 ⟨⟨z, rfl, hz, hz1, hz2⟩, hb2⟩)
  go_ret
  refine ⟨⟨_, rfl, ?_⟩, hb2⟩
  rw [← hz]
  simp
theorem run_eql_slice_nilQ {P : Program} (w : World) (t e : TypeId) (a : Option Addr) (l c : Nat) (h : P.underlying t = some (.slice e)) : (binOp .eql t (.slice a l c) (.slice none 0 0)).run P w = .ok (.bool a.isNone) w := by
  simp only [binOp]
  simp [run_equal_slice_nil w t e a l c h]
attribute [local go_sem] run_eql_slice_nilQ
theorem infoBuf : (Try.prog.info? 36).map (fun i => (i.zero, i.size, i.bytes)) = some (some (.agg #[.int .i64 0, .int .i64 0, .int .i64 0, .int .i64 0]), 4, 32) := by kernel_rfl
theorem infoB_parts : ∃ i, Try.prog.info? 36 = some i ∧ i.zero = some (.agg #[.int .i64 0, .int .i64 0, .int .i64 0, .int .i64 0]) ∧ i.size = 4 ∧ i.bytes = 32 := by
  have h := infoBuf
  cases hi : Try.prog.info? 36 with
  | none => rw [hi] at h; cases h
  | some i =>
    rw [hi] at h
    simp only [Option.map_some, Option.some.injEq, Prod.mk.injEq] at h
    exact ⟨i, rfl, h.1, h.2.1, h.2.2⟩
set_option maxHeartbeats 2000000 in
theorem qclone_some (b o c n : Nat) (L : Nat → Buf) (w : World) (h : BL w w.heap.size (some ⟨b, o, none⟩) n L) (hn : 1 ≤ n) (hn2 : n ≤ 1000000) : Calls Try.prog 17 #[.slice (some ⟨b, o, none⟩) n c] w fun e w' => ∃ g cap, e = .returned (.slice (some ⟨g, 0, none⟩) n cap) ∧ w'.ownsRow w.heap.size 36 4 (.slice (some ⟨g, 0, none⟩) n cap) n (flatB4 L n) ∧ Below w.heap.size w w' := by
  have hb := ((Below.refl w.heap.size w).alloc (Nat.le_refl _) (.cells #[] 36))
  have hnews := (h.below hb (Nat.le_refl _)).news
  obtain ⟨i, hi, hz0, hz1, hz2⟩ := infoB_parts
  go_enter Try.func17, Try.ntmps17
  go_wp2_with (at_builtin; (refine wpList_append_lies _ rfl _ _ 23 rfl w.heap.size 36 i (.agg #[.int .i64 0, .int .i64 0, .int .i64 0, .int .i64 0]) 4 32 Try.underlying23 hi hz0 hz1 hz2 rfl (by decide) _ 0 [] rfl (World.ownsRow_made w #[] 0 (Nat.le_refl _) (by unfold maxLen; omega) (by simp)) ⟨b, o, none⟩ n c (flatB4 L n) rfl (flatB4_len L n) hnews (one_c L n) (by omega) (by unfold maxLen; omega) (by omega) (by simp) _ rfl ?_); intro g cap w1 hown1 hgrow1 hat hlt)
  go_ret
  refine ⟨g, cap, ?_, ?_, ?_⟩
  · simp
  · simpa using hown1
  · refine hb.grown hgrow1 (by simp) (fun j hj => ?_)
    cases hj
    exact Nat.le_refl _
theorem qclone_none (w : World) : Calls Try.prog 17 #[.slice none 0 0] w fun e w' => e = .returned (.slice none 0 0) ∧ w' = w := by
  go_enter Try.func17, Try.ntmps17
  go_wp2
  go_ret
  exact ⟨rfl, rfl⟩
/-- append of one buffer to a list of one's own. -/
theorem appendB {w : World} {ops : Array Oper} {rest : List Oper} {o : Oper} {a : Act} {Q : Exit → Act → World → Prop}
    (base : Nat) (v : Value) (n : Nat) (xs : List Value) (y : Buf) (cap : Nat) (s x : Operand) (hg : o.guard = none) (ho : o.op = .call { callee := .builtin .append, args := #[s, x], argTypes := #[23, 23] })
    (hs : a.eval s = v) (hown : w.ownsRow base 36 4 v n xs) (hx : a.eval x = .slice (some ⟨w.heap.size, 0, none⟩) 1 cap) (hn : n ≤ 1000000) (hb : base ≤ w.heap.size)
    (hK : ∀ g cap' w', w'.ownsRow base 36 4 (.slice (some ⟨g, 0, none⟩) (n + 1) cap') (n + 1) (xs ++ y.c) → w.grownBy w' v.ownBlock → (v.ownBlock = some g ∨ w.heap.size ≤ g) →
      wpList Try.prog ops Q rest (a.put o.dst (.slice (some ⟨g, 0, none⟩) (n + 1) cap')) w') : wpList Try.prog ops Q (o :: rest) a (w.alloc (.cells #[.int .i64 y.fr, .int .i64 y.tt, .int .i64 y.sz, .int .i64 y.pl] 36)) := by
  obtain ⟨i, hi, hz0, hz1, hz2⟩ := infoB_parts
  refine wpList_append_lies _ hg s x _ ho base 36 i (.agg #[.int .i64 0, .int .i64 0, .int .i64 0, .int .i64 0]) 4 32 Try.underlying23 hi hz0 hz1 hz2 rfl (by decide) v n _ hs (hown.alloc _) ⟨w.heap.size, 0, none⟩ 1 cap y.c hx rfl (World.news_of_block (World.alloc_heap_new w _))
    (by simp [Buf.c, Value.oneCell']) (by decide) (by unfold maxLen; omega) (by omega) (by simp; omega) _ rfl ?_
  intro g cap' w' hown' hgrow hat _
  refine hK g cap' w' hown' (grown_trans (World.grownBy_alloc w _ _) hgrow) ?_
  rcases hat with h | h
  · exact .inl h
  · exact .inr (by rw [h]; simp)
set_option maxHeartbeats 2000000 in
theorem qcopy_any (a : Option Addr) (c n : Nat) (L : Nat → Buf) (w : World) (h : BL w w.heap.size a n L) (hn : n ≤ 100000) : Calls Try.prog 7 #[.slice a n c] w fun e w' => ∃ v, e = .returned v ∧ w'.ownsRow w.heap.size 36 4 v n (flatB4 L n) ∧ Below w.heap.size w w' := by
  have hnb := h.nb
  have HL := Lib.hid h
  have HB := Lib.hid (Below.refl w.heap.size w)
  clear h
  go_enter Try.func7, Try.ntmps7
  go_wp2
  go_loopw [3, 4] (fun s3 s4 wr => ∃ k : Nat, s4 = .int .i64 (k : Nat) ∧ k ≤ n ∧ Hid (wr.ownsRow w.heap.size 36 4 s3 k (flatB4 L k)) ∧ Hid (Below w.heap.size w wr)) (fun _ s4 _ => n - (intOf s4).toNat)
  case atStart => exact ⟨0, rfl, Nat.zero_le _, Lib.hid (World.ownsRow_nil _ _ _ _), HB⟩
  case round =>
    rename_i s3 s4
    skip
    obtain ⟨k, rfl, hk, HO, HB1⟩ := hrel
    clear HB
    obtain ⟨wo, rfl⟩ : ∃ x : World, x = wr := ⟨_, rfl⟩
    by_cases hlt : k < n
    · skip
      have HL1 := HL.out.below HB1.out (Nat.le_refl _)
      obtain ⟨b, o, rfl, hl, d0, d1, d2, d3⟩ := HL1.four hlt
      obtain ⟨y, hL⟩ : ∃ z, L k = z := ⟨_, rfl⟩
      rw [hL] at d0 d1 d2 d3
      have HY := Lib.hid hL
      clear HL1 hL
      have hki : (k : Int) < (n : Int) := by omega
      have hsz := HB1.out.size
      have HKB := Lib.hid (show k ≤ 1000000 by omega)
      go_wp2_with (at_builtin; refine appendB w.heap.size _ k (flatB4 L k) y _ _ _ rfl rfl rfl HO.out rfl HKB.out hsz ?_; intro g cap' w8 hown hgr hob; have HO2 : Hid (w8.ownsRow w.heap.size 36 4 (.slice (some ⟨g, 0, none⟩) (k + 1) cap') (k + 1) (flatB4 L (k + 1))) := Lib.hid (by rw [flatB4, HY.out]; exact hown); have HB2 := Lib.hid (HB1.out.grown hgr hsz (fun j hj => (HO.out.lt j hj).1)); clear hown hgr hob d0 d1 d2 d3 HO HB1)
      go_roundw
      case rel => exact ⟨k + 1, by first | rfl | go_num, by omega, HO2, HB2⟩
      case measure => (simp only [intOf]; omega)
    · obtain rfl : k = n := by omega
      go_wp2
      go_ret
      exact ⟨_, rfl, HO.out, HB1.out⟩
/-- The same, field by field. -/
def eqBuf (x y : Buf) : Bool := x.fr == y.fr && (x.tt == y.tt && (x.sz == y.sz && x.pl == y.pl))
theorem eqBuf_iff {x y : Buf} : eqBuf x y = true ↔ x = y := by
  obtain ⟨a, b, c, d⟩ := x
  obtain ⟨a', b', c', d'⟩ := y
  simp [eqBuf]
/-- Are the first n alike? -/
def AllEq (L M : Nat → Buf) (n : Nat) : Prop := ∀ i, i < n → L i = M i
set_option maxHeartbeats 2000000 in
theorem qeq_any (a a2 : Option Addr) (c c2 n : Nat) (L M : Nat → Buf) (w : World) (h : BL w w.heap.size a n L) (h2 : BL w w.heap.size a2 n M) (he : AllEq L M n) : Calls Try.prog 10 #[.slice a n c, .slice a2 n c2] w fun e w' => e = .returned (.bool true) ∧ Below w.heap.size w w' := by
  have hnb := h.nb
  have HL := Lib.hid h
  have HM := Lib.hid h2
  have HE := Lib.hid he
  have HB := Lib.hid (Below.refl w.heap.size w)
  clear h h2 he
  go_enter Try.func10, Try.ntmps10
  go_wp2
  go_loopw [5] (fun s5 wr => ∃ k : Nat, s5 = .int .i64 (k : Nat) ∧ k ≤ n ∧ Hid (Below w.heap.size w wr)) (fun s5 _ => n - (intOf s5).toNat)
  case atStart => exact ⟨0, rfl, Nat.zero_le _, HB⟩
  case round =>
    obtain ⟨k, rfl, hk, HB1⟩ := hrel
    clear HB
    obtain ⟨wo, rfl⟩ : ∃ x : World, x = wr := ⟨_, rfl⟩
    by_cases hlt : k < n
    · skip
      have hki : (k : Int) < (n : Int) := by omega
      have heq := HE.out k hlt
      obtain ⟨y, hL⟩ : ∃ z, L k = z := ⟨_, rfl⟩
      have hM : M k = y := by rw [← heq, hL]
      have HY := Lib.hid hL
      have HY2 := Lib.hid hM
      have HK := Lib.hid hlt
      obtain ⟨b, o, rfl, hl, _⟩ := HL.out.four hlt
      obtain ⟨b2, o2, rfl, hl2, _⟩ := HM.out.four hlt
      clear heq hL hM
      go_upto_region 6 with fail
      refine wp_region_inv (w := wo) 9 (fun _ _ => True) (fun _ W => Below w.heap.size w W) [] [(fun u _ => u = .slice (some ⟨b, o, none⟩) n c), (fun u _ => u = .int .i64 (k : Int)), (fun u _ => u = .pointer (some ⟨b, o + k * 4, none⟩)), (fun u _ => u = .agg #[.int .i64 y.fr, .int .i64 y.tt, .int .i64 y.sz, .int .i64 y.pl]), (fun u _ => u = .slice (some ⟨b2, o2, none⟩) n c2), (fun u _ => u = .int .i64 (k : Int)), (fun u _ => u = .pointer (some ⟨b2, o2 + k * 4, none⟩)), (fun u _ => u = .agg #[.int .i64 y.fr, .int .i64 y.tt, .int .i64 y.sz, .int .i64 y.pl]), (fun u _ => u = .bool false)] [some 17, some 18, some 19, some 20, some 21, some 22, some 23, some 24, some 25] (by kernel_rfl) (by kernel_rfl) rfl (by kernel_rfl) (by kernel_rfl) (by decide) (by decide) (fun _ _ => trivial) trivial HB1.out.drew (BorneAll.at (.cons (borne_eq _) (.cons (borne_eq _) (.cons (borne_eq _) (.cons (borne_eq _) (.cons (borne_eq _) (.cons (borne_eq _) (.cons (borne_eq _) (.cons (borne_eq _) (.cons (borne_eq _) .nil)))))))))) (fun vs b hvl hvb => ?_)
      obtain ⟨x0, x1, x2, x3, x4, x5, x6, x7, x8, rfl⟩ : ∃ x0 x1 x2 x3 x4 x5 x6 x7 x8, vs = [x0, x1, x2, x3, x4, x5, x6, x7, x8] := lb9 hvl
      clear hvl
      simp only [putAll, Act.put, List.setIfInBounds_toArray, List.set_cons_zero, List.set_cons_succ] at hvb
      subst hvb
      refine ⟨(.snoc (.snoc (.snoc (.snoc (.snoc (.snoc (.snoc (.snoc (.snoc .zero (InvOb.intro (d := (some 17)) (r := fun u _ => u = .slice (some ⟨b, o, none⟩) n c) 0 0 rfl rfl rfl (by kernel_rfl) (by kernel_rfl) rfl ?io6x0)) (InvOb.intro (d := (some 18)) (r := fun u _ => u = .int .i64 (k : Int)) 0 0 rfl rfl rfl (by kernel_rfl) (by kernel_rfl) rfl ?io6x1)) (InvOb.intro (d := (some 19)) (r := fun u _ => u = .pointer (some ⟨b, o + k * 4, none⟩)) 0 0 rfl rfl rfl (by kernel_rfl) (by kernel_rfl) rfl ?io6x2)) (InvOb.intro (d := (some 20)) (r := fun u _ => u = .agg #[.int .i64 y.fr, .int .i64 y.tt, .int .i64 y.sz, .int .i64 y.pl]) 0 0 rfl rfl rfl (by kernel_rfl) (by kernel_rfl) rfl ?io6x3)) (InvOb.intro (d := (some 21)) (r := fun u _ => u = .slice (some ⟨b2, o2, none⟩) n c2) 0 0 rfl rfl rfl (by kernel_rfl) (by kernel_rfl) rfl ?io6x4)) (InvOb.intro (d := (some 22)) (r := fun u _ => u = .int .i64 (k : Int)) 0 0 rfl rfl rfl (by kernel_rfl) (by kernel_rfl) rfl ?io6x5)) (InvOb.intro (d := (some 23)) (r := fun u _ => u = .pointer (some ⟨b2, o2 + k * 4, none⟩)) 0 0 rfl rfl rfl (by kernel_rfl) (by kernel_rfl) rfl ?io6x6)) (InvOb.intro (d := (some 24)) (r := fun u _ => u = .agg #[.int .i64 y.fr, .int .i64 y.tt, .int .i64 y.sz, .int .i64 y.pl]) 0 0 rfl rfl rfl (by kernel_rfl) (by kernel_rfl) rfl ?io6x7)) (InvOb.intro (d := (some 25)) (r := fun u _ => u = .bool false) 0 0 rfl rfl rfl (by kernel_rfl) (by kernel_rfl) rfl ?io6x8)), ?iend6⟩
      case io6x0 =>
        intro k1 w1 hk0 hk1 hb1 hS hd KK hK
        clear hd
        simp only [Act.put, List.setIfInBounds_toArray, List.set_cons_zero, List.set_cons_succ] at hK
        go_simp
        first | exact hK.out _ _ trivial hS rfl | (have hk := hK.out _ _ trivial hS rfl; revert hk; go_simp)
      case io6x1 =>
        intro k1 w1 hk0 hk1 hb1 hS hd KK hK
        clear hd
        simp only [Act.put, List.setIfInBounds_toArray, List.set_cons_zero, List.set_cons_succ] at hK
        go_simp
        first | exact hK.out _ _ trivial hS rfl | (have hk := hK.out _ _ trivial hS rfl; revert hk; go_simp)
      case io6x2 =>
        intro k1 w1 hk0 hk1 hb1 hS hd KK hK
        have d0 : x0 = .slice (some ⟨b, o, none⟩) n c := hd 0 (by kernel_rfl)
        have d1 : x1 = .int .i64 (k : Int) := hd 1 (by kernel_rfl)
        clear hd
        subst d0
        subst d1
        have g1 := hki
        simp only [Act.put, List.setIfInBounds_toArray, List.set_cons_zero, List.set_cons_succ] at hK
        go_simp
        first | exact hK.out _ _ trivial hS rfl | (have hk := hK.out _ _ trivial hS rfl; revert hk; go_simp)
      case io6x3 =>
        intro k1 w1 hk0 hk1 hb1 hS hd KK hK
        have d2 : x2 = .pointer (some ⟨b, o + k * 4, none⟩) := hd 2 (by kernel_rfl)
        clear hd
        subst d2
        obtain ⟨b9, o9, he9, hl9, d0, d1, d2, d3⟩ := (HL.out.below hS (Nat.le_refl _)).four HK.out
        cases he9
        rw [HY.out] at d0 d1 d2 d3
        skip
        simp only [Act.put, List.setIfInBounds_toArray, List.set_cons_zero, List.set_cons_succ] at hK
        go_simp
        first | exact hK.out _ _ trivial hS rfl | (have hk := hK.out _ _ trivial hS rfl; revert hk; go_simp)
      case io6x4 =>
        intro k1 w1 hk0 hk1 hb1 hS hd KK hK
        clear hd
        simp only [Act.put, List.setIfInBounds_toArray, List.set_cons_zero, List.set_cons_succ] at hK
        go_simp
        first | exact hK.out _ _ trivial hS rfl | (have hk := hK.out _ _ trivial hS rfl; revert hk; go_simp)
      case io6x5 =>
        intro k1 w1 hk0 hk1 hb1 hS hd KK hK
        clear hd
        simp only [Act.put, List.setIfInBounds_toArray, List.set_cons_zero, List.set_cons_succ] at hK
        go_simp
        first | exact hK.out _ _ trivial hS rfl | (have hk := hK.out _ _ trivial hS rfl; revert hk; go_simp)
      case io6x6 =>
        intro k1 w1 hk0 hk1 hb1 hS hd KK hK
        have d4 : x4 = .slice (some ⟨b2, o2, none⟩) n c2 := hd 4 (by kernel_rfl)
        have d5 : x5 = .int .i64 (k : Int) := hd 5 (by kernel_rfl)
        clear hd
        subst d4
        subst d5
        have g1 := hki
        simp only [Act.put, List.setIfInBounds_toArray, List.set_cons_zero, List.set_cons_succ] at hK
        go_simp
        first | exact hK.out _ _ trivial hS rfl | (have hk := hK.out _ _ trivial hS rfl; revert hk; go_simp)
      case io6x7 =>
        intro k1 w1 hk0 hk1 hb1 hS hd KK hK
        have d6 : x6 = .pointer (some ⟨b2, o2 + k * 4, none⟩) := hd 6 (by kernel_rfl)
        clear hd
        subst d6
        obtain ⟨b9, o9, he9, hl9, d0, d1, d2, d3⟩ := (HM.out.below hS (Nat.le_refl _)).four HK.out
        cases he9
        rw [HY2.out] at d0 d1 d2 d3
        skip
        simp only [Act.put, List.setIfInBounds_toArray, List.set_cons_zero, List.set_cons_succ] at hK
        go_simp
        first | exact hK.out _ _ trivial hS rfl | (have hk := hK.out _ _ trivial hS rfl; revert hk; go_simp)
      case io6x8 =>
        intro k1 w1 hk0 hk1 hb1 hS hd KK hK
        have d3 : x3 = .agg #[.int .i64 y.fr, .int .i64 y.tt, .int .i64 y.sz, .int .i64 y.pl] := hd 3 (by kernel_rfl)
        have d7 : x7 = .agg #[.int .i64 y.fr, .int .i64 y.tt, .int .i64 y.sz, .int .i64 y.pl] := hd 7 (by kernel_rfl)
        clear hd
        subst d3
        subst d7
        simp only [Act.put, List.setIfInBounds_toArray, List.set_cons_zero, List.set_cons_succ] at hK
        go_simp
        first | exact hK.out _ _ trivial hS rfl | (have hk := hK.out _ _ trivial hS rfl; revert hk; go_simp)
      case iend6 =>
        intro w1 hb1 hS hR
        have d0 : x0 = .slice (some ⟨b, o, none⟩) n c := hR 0 (by decide)
        have d1 : x1 = .int .i64 (k : Int) := hR 1 (by decide)
        have d2 : x2 = .pointer (some ⟨b, o + k * 4, none⟩) := hR 2 (by decide)
        have d3 : x3 = .agg #[.int .i64 y.fr, .int .i64 y.tt, .int .i64 y.sz, .int .i64 y.pl] := hR 3 (by decide)
        have d4 : x4 = .slice (some ⟨b2, o2, none⟩) n c2 := hR 4 (by decide)
        have d5 : x5 = .int .i64 (k : Int) := hR 5 (by decide)
        have d6 : x6 = .pointer (some ⟨b2, o2 + k * 4, none⟩) := hR 6 (by decide)
        have d7 : x7 = .agg #[.int .i64 y.fr, .int .i64 y.tt, .int .i64 y.sz, .int .i64 y.pl] := hR 7 (by decide)
        have d8 : x8 = .bool false := hR 8 (by decide)
        clear hR
        subst d0
        subst d1
        subst d2
        subst d3
        subst d4
        subst d5
        subst d6
        subst d7
        subst d8
        try simp only [putAll, Act.put, List.setIfInBounds_toArray, List.set_cons_zero, List.set_cons_succ]
        have HB2 := Lib.hid hS
        clear hS hb1 HB1
        go_wp2
        go_roundw
        case rel => exact ⟨k + 1, by first | rfl | go_num, by omega, HB2⟩
        case measure => (simp only [intOf]; omega)
    · obtain rfl : k = n := by omega
      go_wp2
      go_ret
      exact ⟨rfl, HB1.out⟩
end Go.Proofs.Ytdpnichgdfpmgaa
