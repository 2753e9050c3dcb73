/- Walks: elem.All of two tensors; a new tensor. -/
import Derived.Test.YtddhhfhammmaaaaGreatMTen
set_option linter.unusedVariables false
set_option linter.unusedSimpArgs false
namespace Go.Proofs.YtddhhfhammmaaaaGreat
open Go.RowKit Go.Rt

theorem all1_any (a b : Option Addr) (c d : Nat) (xs ys : List Int) (w : World) (h : Ints .i64 w w.heap.size a xs) (h2 : Ints .i64 w w.heap.size b ys) (ht : tenB xs ys = true) :
    Calls Tryz.prog 63 #[.agg #[.slice a xs.length c, .slice b ys.length d]] w fun e w' => e = .returned (.bool false) ∧ Below w.heap.size w w' := by
  have hg := fun w' (hb : Below w.heap.size w w') => Lib.hid (elemGood_any a b c d xs ys w' ((h.below hb (Nat.le_refl _)).mono hb.size) ((h2.below hb (Nat.le_refl _)).mono hb.size))
  rw [ht] at hg
  clear h h2 ht
  go_enter Tryz.func63, Tryz.ntmps63
  go_wp2_with (first | (go_at_call 42; refine (hg _ (by (repeat' (first | exact Below.refl _ _ | refine below_drewN ?_ _ | refine Below.drew ?_ | refine Below.setCell ?_ (by first | omega | (simp <;> omega)) _ | refine Below.alloc ?_ (by first | omega | (simp <;> omega)) _)))).out.mono ?_; rintro e w1 ⟨rfl, hb⟩; have HB := Lib.hid hb; clear hb))
  go_ret
  exact ⟨rfl, Below.trans (by (repeat' (first | exact Below.refl _ _ | refine below_drewN ?_ _ | refine Below.drew ?_ | refine Below.setCell ?_ (by first | omega | (simp <;> omega)) _ | refine Below.alloc ?_ (by first | omega | (simp <;> omega)) _))) (HB.out.mono (by first | omega | (simp <;> omega)))⟩

set_option maxHeartbeats 1000000 in
theorem indexTen_any (q : Nat) (aA bA aB bB : Option Addr) (cA dA cB dB : Nat) (xsA ysA xsB ysB : List Int) (w : World)
    (hq : w.cell? ⟨q, 0, none⟩ = some (.slice aA xsA.length cA) ∧ w.cell? ⟨q, 1, none⟩ = some (.slice bA ysA.length dA) ∧ w.cell? ⟨q, 2, none⟩ = some (.slice aB xsB.length cB) ∧ w.cell? ⟨q, 3, none⟩ = some (.slice bB ysB.length dB)) (hql : q < w.heap.size)
    (hA : Ints .i64 w w.heap.size aA xsA) (hA2 : Ints .i64 w w.heap.size bA ysA) (hB : Ints .i64 w w.heap.size aB xsB) (hB2 : Ints .i64 w w.heap.size bB ysB) (tA : tenB xsA ysA = true) (tB : tenB xsB ysB = true) :
    Calls Tryz.prog 88 #[.slice (some ⟨q, 0, none⟩) 2 2, .func (.func 63) #[] #[]] w fun e w' => e = .returned (.int .i64 (-1)) ∧ Below w.heap.size w w' := by
  have hgA := fun w' (hb : Below w.heap.size w w') => Lib.hid (all1_any aA bA cA dA xsA ysA w' ((hA.below hb (Nat.le_refl _)).mono hb.size) ((hA2.below hb (Nat.le_refl _)).mono hb.size) tA)
  have hgB := fun w' (hb : Below w.heap.size w w') => Lib.hid (all1_any aB bB cB dB xsB ysB w' ((hB.below hb (Nat.le_refl _)).mono hb.size) ((hB2.below hb (Nat.le_refl _)).mono hb.size) tB)
  have HQ := Lib.hid hq
  clear hA hA2 hB hB2 tA tB hq
  go_enter Tryz.func88, Tryz.ntmps88
  go_wp2
  go_loopw [8] (fun i wr => ∃ k : Nat, k ≤ 2 ∧ i = .int .i64 k ∧ Below w.heap.size w wr) (fun i _ => 2 - (intOf i).toNat)
  case atStart => exact ⟨0, by omega, rfl, Below.refl _ _⟩
  case round =>
    obtain ⟨k, hk, rfl, hbel⟩ := hrel
    have HBL := Lib.hid hbel
    obtain ⟨q0, q1, q2, q3⟩ := HQ.out
    have c0 := (hbel.cell (p := ⟨q, 0, none⟩) hql).trans q0
    have c1 := (hbel.cell (p := ⟨q, 1, none⟩) hql).trans q1
    have c2 := (hbel.cell (p := ⟨q, 2, none⟩) hql).trans q2
    have c3 := (hbel.cell (p := ⟨q, 3, none⟩) hql).trans q3
    clear q0 q1 q2 q3 hbel
    match k, hk with
    | 0, _ =>
      go_wp2_with (first | (go_at_call 63; refine (hgA _ HBL.out).out.mono ?_; rintro e w1 ⟨rfl, hb⟩; have HB := Lib.hid hb; clear hb))
      go_roundw
      case rel => exact ⟨1, by omega, rfl, HBL.out.trans (HB.out.mono HBL.out.size)⟩
      case measure => simp [intOf]
    | 1, _ =>
      go_wp2_with (first | (go_at_call 63; refine (hgB _ HBL.out).out.mono ?_; rintro e w1 ⟨rfl, hb⟩; have HB := Lib.hid hb; clear hb))
      go_roundw
      case rel => exact ⟨2, by omega, rfl, HBL.out.trans (HB.out.mono HBL.out.size)⟩
      case measure => simp [intOf]
    | 2, _ =>
      go_wp2
      go_ret
      exact ⟨rfl, HBL.out⟩

theorem elemAll_any (q : Nat) (aA bA aB bB : Option Addr) (cA dA cB dB : Nat) (xsA ysA xsB ysB : List Int) (w : World)
    (hq : w.cell? ⟨q, 0, none⟩ = some (.slice aA xsA.length cA) ∧ w.cell? ⟨q, 1, none⟩ = some (.slice bA ysA.length dA) ∧ w.cell? ⟨q, 2, none⟩ = some (.slice aB xsB.length cB) ∧ w.cell? ⟨q, 3, none⟩ = some (.slice bB ysB.length dB)) (hql : q < w.heap.size)
    (hA : Ints .i64 w w.heap.size aA xsA) (hA2 : Ints .i64 w w.heap.size bA ysA) (hB : Ints .i64 w w.heap.size aB xsB) (hB2 : Ints .i64 w w.heap.size bB ysB) (tA : tenB xsA ysA = true) (tB : tenB xsB ysB = true) :
    Calls Tryz.prog 34 #[.slice (some ⟨q, 0, none⟩) 2 2] w fun e w' => e = .returned (.bool true) ∧ Below w.heap.size w w' := by
  have hi := Lib.hid (indexTen_any q aA bA aB bB cA dA cB dB xsA ysA xsB ysB w hq hql hA hA2 hB hB2 tA tB)
  have hc : Calls Tryz.prog 62 #[.slice (some ⟨q, 0, none⟩) 2 2, .func (.func 63) #[] #[]] w fun e w' => e = .returned (.bool false) ∧ Below w.heap.size w w' := by
    clear hq hA hA2 hB hB2 tA tB
    go_enter Tryz.func62, Tryz.ntmps62
    go_wp2_with (first | (go_at_call 88; refine hi.out.mono ?_; rintro e w1 ⟨rfl, hb⟩; have HB := Lib.hid hb; clear hb))
    go_ret
    exact ⟨rfl, HB.out⟩
  have HC := Lib.hid hc
  clear hc hi hq hA hA2 hB hB2 tA tB
  go_enter Tryz.func34, Tryz.ntmps34
  go_wp2_with (first | (go_at_call 62; refine HC.out.mono ?_; rintro e w1 ⟨rfl, hb⟩; have HB := Lib.hid hb; clear hb))
  go_ret
  exact ⟨rfl, HB.out⟩

theorem ints_setCell {k : IntKind} {w : World} {hi : Nat} {a : Option Addr} {xs : List Int} {q o : Nat} {v : Value} (h : Ints k w hi a xs) (hne : xs.length = 0 ∨ ∃ g, a = some ⟨g, 0, none⟩ ∧ q < g) : Ints k (w.setCell ⟨q, o, none⟩ v) hi a xs :=
  ⟨h.len, h.wf, fun i hi' => by
    obtain ⟨b, off, ha, hlt, hc⟩ := h.cell i hi'
    refine ⟨b, off, ha, hlt, ?_⟩
    rcases hne with h0 | ⟨g, hg, hq⟩
    · omega
    · rw [ha] at hg
      cases hg
      rw [← hc]
      have hn : ¬ b = q := by omega
      go_simp⟩

theorem own_cap {w : World} {base : Nat} {e : TypeId} {a : Option Addr} {n c : Nat} {xs : List Value} (h : w.ownsRow base e 1 (.slice a n c) n xs) : n ≤ c ∧ c ≤ 9223372036854775807 := by
  rcases h.2 with ⟨h1, h2⟩ | ⟨g, cap, cur, h1, _, _, h4, h5, _⟩
  · cases h1
    omega
  · cases h1
    unfold maxLen at h5
    omega

/-- A row of one's own below a bound. -/
structure OwnB (w : World) (base mid : Nat) (e : TypeId) (v : Value) (n : Nat) (xs : List Value) : Prop where
  own : w.ownsRow base e 1 v n xs
  lt : ∀ g, v.ownBlock = some g → g < mid
theorem ownB_nil (w : World) (base mid : Nat) (e : TypeId) : OwnB w base mid e (.slice none 0 0) 0 [] := ⟨World.ownsRow_nil _ _ _ _, fun g h => by simp [Value.ownBlock] at h⟩
theorem OwnB.at {w w' : World} {base mid : Nat} {e : TypeId} {v : Value} {n : Nat} {xs : List Value} (h : OwnB w base mid e v n xs) (hq : ∀ g, v.ownBlock = some g → w'.heap[g]? = w.heap[g]?) : OwnB w' base mid e v n xs := by
  refine ⟨⟨h.own.1, h.own.2.imp id ?_⟩, h.lt⟩
  rintro ⟨g, cap, cur, h1, h2, h3, h4⟩
  exact ⟨g, cap, cur, h1, h2, (hq g (by rw [h1]; rfl)).trans h3, h4⟩
theorem OwnB.below {w w' : World} {base mid B : Nat} {e : TypeId} {v : Value} {n : Nat} {xs : List Value} (h : OwnB w base mid e v n xs) (hb : Below B w w') (hB : mid ≤ B) : OwnB w' base mid e v n xs :=
  h.at fun g hg => hb.block g (Nat.lt_of_lt_of_le (h.lt g hg) hB)
theorem OwnB.set {w : World} {base mid q o : Nat} {e : TypeId} {v x : Value} {n : Nat} {xs : List Value} (h : OwnB w base mid e v n xs) (hq : q < base ∨ mid ≤ q) : OwnB (w.setCell ⟨q, o, none⟩ x) base mid e v n xs := by
  refine h.at fun g hg => ?_
  have h1 := (h.own.lt g hg).1
  have h2 := h.lt g hg
  exact Below.heap_setCell w _ x g (by show g ≠ q; omega)
theorem OwnB.mono {w : World} {base base' mid mid' : Nat} {e : TypeId} {v : Value} {n : Nat} {xs : List Value} (h : OwnB w base mid e v n xs) (hb : base' ≤ base) (hm : mid ≤ mid') : OwnB w base' mid' e v n xs :=
  ⟨own_mono h.own hb, fun g hg => Nat.lt_of_lt_of_le (h.lt g hg) hm⟩
theorem OwnB.of {w : World} {base : Nat} {e : TypeId} {v : Value} {n : Nat} {xs : List Value} (h : w.ownsRow base e 1 v n xs) : OwnB w base w.heap.size e v n xs := ⟨h, fun g hg => (h.lt g hg).2⟩
theorem OwnB.shape {w : World} {base mid : Nat} {e : TypeId} {a : Option Addr} {n c : Nat} {xs : List Value} (h : OwnB w base mid e (.slice a n c) n xs) : n = 0 ∨ ∃ g, a = some ⟨g, 0, none⟩ ∧ base ≤ g := by
  obtain ⟨a', c', he, hh⟩ := own_shape h.own
  cases he
  exact hh.imp id (fun ⟨g, h1, h2, _⟩ => ⟨g, h1, h2⟩)
/-- A tensor handed back, of the call's own: its shape reads and is the call's own, its words are a row beyond mid. -/
def RetNew (w : World) (xs : List Int) (n : Nat) (e : Ending) (w' : World) : Prop :=
  ∃ a c b d mid, e = .returned (.agg #[.slice a xs.length c, .slice b n d]) ∧ w.heap.size ≤ mid ∧ mid ≤ w'.heap.size ∧ Ints .i64 w' mid a xs ∧ ((xs.length ≤ c ∧ c ≤ 9223372036854775807) ∧ OwnB w' w.heap.size mid 3 (.slice a xs.length c) xs.length (xs.map (Value.int .i64))) ∧ w'.ownsRow mid 2 1 (.slice b n d) n ((List.replicate n (0 : Int)).map (Value.int .i64)) ∧ Below w.heap.size w w'

set_option maxHeartbeats 1000000 in
theorem elemNew_any (a : Option Addr) (c : Nat) (xs : List Int) (w : World) (h : Ints .i64 w w.heap.size a xs) (hg : goodB xs = true) :
    Calls Tryz.prog 37 #[.slice a xs.length c] w (RetNew w xs (prodI xs).toNat) := by
  have hlen := (goodB_iff.1 hg).1
  have hp := goodB_prod hg
  have hwf := h.wf
  have hcl := fun w' (hb : Below w.heap.size w w') => Lib.hid (clone_any a c xs w' ((h.below hb (Nat.le_refl _)).mono hb.size) (by omega))
  have hsz := fun w' (hb : Below w.heap.size w w') => Lib.hid (size_any a c w.heap.size xs w' (h.below hb (Nat.le_refl _)) hg)
  have hm := h.len
  have hN : prodI xs = ((prodI xs).toNat : Int) := by omega
  generalize (prodI xs).toNat = N at hN ⊢
  rw [hN] at hsz hp
  have hNb : N ≤ 65536 := by omega
  clear h hg hN hp
  go_enter Tryz.func37, Tryz.ntmps37
  go_upto_region 1 with fail
  go_wp2_with (first | (go_at_call 43; refine (hcl _ (by (repeat' (first | exact Below.refl _ _ | refine below_drewN ?_ _ | refine Below.drew ?_ | refine Below.setCell ?_ (by first | omega | (simp <;> omega)) _ | refine Below.alloc ?_ (by first | omega | (simp <;> omega)) _)))).out.mono ?_; rintro e w1 ⟨v, rfl, hown, hb⟩; have HB1 := Lib.hid hb; have hs1 := hb.size; (try simp at hs1); have X := Box2.below (b := w.heap.size) (v0 := .slice none 0 0) (v1 := .slice none 0 0) (by constructor <;> go_simp) hb (by first | omega | (simp <;> omega)); obtain ⟨p0, p1, p2, p3⟩ := X; have HO := Lib.hid hown; obtain ⟨a1, c1, rfl, hsh⟩ := own_shape hown; have HSH := Lib.hid hsh; have hlq : w.heap.size < w1.heap.size := (by omega); clear hb hown hsh) | (go_at_call 66; refine (hsz _ (Below.trans (by (repeat' (first | exact Below.refl _ _ | refine below_drewN ?_ _ | refine Below.drew ?_ | refine Below.setCell ?_ (by first | omega | (simp <;> omega)) _ | refine Below.alloc ?_ (by first | omega | (simp <;> omega)) _))) (HB1.out.mono (by first | omega | (simp <;> omega))))).out.mono ?_; rintro e w' ⟨rfl, rfl⟩) | (at_make; (refine wpl_make 24 2 .i64 infoI64 Tryz.underlying24 w1.heap.size N _ _ _ _ rfl rfl rfl rfl rfl rfl (by omega) (Nat.le_refl _) ?_); intro w2 hown2 hbel2 hsz2; have HO2 := Lib.hid hown2; have HB2 := Lib.hid (hbel2 w1.heap.size (Nat.le_refl _)); have X := Box2.below (b := w.heap.size) (v0 := .slice none 0 0) (v1 := .slice none 0 0) ⟨p0, p1, p2, p3⟩ HB2.out hlq; obtain ⟨q0, q1, q2, q3⟩ := X; clear hown2 hbel2))
  (try simp only [Exit.noGoto, Exit.inBlock, Exit.then])
  refine bodyPost_ret (v := .agg #[.slice a1 xs.length c1, .slice (some ⟨w1.heap.size, 0, none⟩) N N]) (by rw [results_c1 rfl]; go_simp) rfl ⟨a1, c1, _, N, w1.heap.size, rfl, by omega, ?_, ?_, ⟨own_cap HO.out, ((((OwnB.of HO.out).below HB2.out (Nat.le_refl _)).set (.inl (by simp))).set (.inl (by simp))).mono (by simp) (Nat.le_refl _)⟩, ?_, ?_⟩
  · simp
    omega
  · obtain ⟨a2, c2, he, hI⟩ := own_ints HO.out hwf
    cases he
    have hI2 := hI.below HB2.out (Nat.le_refl _)
    have hq : xs.length = 0 ∨ ∃ g, a1 = some ⟨g, 0, none⟩ ∧ w.heap.size < g := HSH.out.imp id (by rintro ⟨g, hg, hb, _⟩; exact ⟨g, hg, by simp at hb; omega⟩)
    exact ints_setCell (ints_setCell hI2 hq) hq
  · exact ownsRow_setCell_below (ownsRow_setCell_below HO2.out (by simpa using hlq) _) (by simpa using hlq) _
  · iterate 2 refine Below.setCell ?_ (by first | omega | (simp <;> omega)) _
    exact Below.trans (by (repeat' (first | exact Below.refl _ _ | refine below_drewN ?_ _ | refine Below.drew ?_ | refine Below.setCell ?_ (by first | omega | (simp <;> omega)) _ | refine Below.alloc ?_ (by first | omega | (simp <;> omega)) _))) (Below.trans (HB1.out.mono (by first | omega | (simp <;> omega))) (HB2.out.mono (by first | omega | (simp <;> omega))))
end Go.Proofs.YtddhhfhammmaaaaGreat
