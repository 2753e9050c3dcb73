/- Tensors: what they are, new ones, equality, copies; what a walk carries. -/
import Derived.Test.YtimjhjacinchjaaGreatEWords
import Derived.Test.YtimjhjacinchjaaGreatEList
import Derived.Test.YtimjhjacinchjaaGreatEnv
import Derived.Test.YtimjhjacinchjaaGreatOpen
import Derived.Deep.RegionHeld3
import Derived.Deep.Cut
import Derived.BigQuiet
set_option linter.unusedVariables false
set_option linter.unusedSimpArgs false
namespace Go.Proofs.YtimjhjacinchjaaGreat
open Go.RowKit Go.Rt

/-- Is it a tensor? -/
def tenB (xs ys : List Int) : Bool := goodB xs && (decide ((ys.length : Int) = prodI xs) && ys.all isW)
theorem tenB_iff {xs ys : List Int} : tenB xs ys = true ↔ goodB xs = true ∧ (ys.length : Int) = prodI xs ∧ ∀ y ∈ ys, isW y = true := by
  simp [tenB]
theorem quietSame {P : Program} {f : FuncId} {args : Array Value} {w : World} {n : Nat} {v : Value} (h : Calls P f args (w.drewN n) fun e w' => e = .returned v ∧ w.drewN n = w') :
    Calls P f args (w.drewN n) fun e w'' => e = .returned v ∧ ∃ m, w'' = w.drewN m := h.mono fun _ _ ⟨he, hm⟩ => ⟨he, n, hm.symm⟩
theorem heldB2 {n : Nat} {Wb w : World} {p : Prop} (h : Below n Wb w ∧ p) : Below n Wb w := h.1
theorem tenKeep2 {n : Nat} {W w w' : World} {b : Nat} {v0 v1 : Value} (h : Below n W w ∧ w.cell? ⟨b, 0, none⟩ = some v0 ∧ w.cell? ⟨b, 1, none⟩ = some v1) (hb : w = w') :
    Below n W w' ∧ w'.cell? ⟨b, 0, none⟩ = some v0 ∧ w'.cell? ⟨b, 1, none⟩ = some v1 := by subst hb; exact h
theorem tenDrew {n : Nat} {W w : World} {b : Nat} {v0 v1 : Value} (h : Below n W w ∧ w.cell? ⟨b, 0, none⟩ = some v0 ∧ w.cell? ⟨b, 1, none⟩ = some v1) :
    Below n W w.drew ∧ w.drew.cell? ⟨b, 0, none⟩ = some v0 ∧ w.drew.cell? ⟨b, 1, none⟩ = some v1 := ⟨h.1.drew, h.2.1, h.2.2⟩
set_option maxHeartbeats 1000000 in
theorem elemGood_any (a b : Option Addr) (c d : Nat) (xs ys : List Int) (w : World) (h : Ints .i64 w w.heap.size a xs) (h2 : Ints .i64 w w.heap.size b ys) :
    Calls Tryz.prog 24 #[.agg #[.slice a xs.length c, .slice b ys.length d]] w fun e w' => e = .returned (.bool (tenB xs ys)) ∧ Below w.heap.size w w' := by
  have hg := fun w' (hb : Below w.heap.size w w') => Lib.hid (good_any a c w.heap.size xs w' (h.below hb (Nat.le_refl _)))
  have hw := fun w' (hb : Below w.heap.size w w') => Lib.hid (hasBad_any b d w.heap.size ys w' (h2.below hb (Nat.le_refl _)))
  have hlen := h2.len
  cases hgood : goodB xs with
  | false =>
    have e : tenB xs ys = false := by unfold tenB; rw [hgood]; rfl
    rw [e]
    rw [hgood] at hg
    clear e hgood hw h h2
    go_enter Tryz.func24, Tryz.ntmps24
    go_upto_region 1 with fail
    go_quiet (first | (go_at_call 42; exact quietSame (hg _ (by (repeat' (first | exact Below.refl _ _ | refine below_drewN ?_ _ | refine Below.drew ?_ | refine Below.alloc ?_ (by first | omega | (simp <;> omega)) _)))).out))
    go_wp2_with fail
    go_ret
    exact ⟨rfl, (by (repeat' (first | exact Below.refl _ _ | refine below_drewN ?_ _ | refine Below.drew ?_ | refine Below.alloc ?_ (by first | omega | (simp <;> omega)) _)))⟩
  | true =>
    have hz := fun w' (hb : Below w.heap.size w w') => Lib.hid (size_any a c w.heap.size xs w' (h.below hb (Nat.le_refl _)) hgood)
    skip
    skip
    have hpb := goodB_prod hgood
    rw [hgood] at hg
    by_cases hl : (ys.length : Int) = prodI xs
    · cases hall : ys.all isW with
      | false =>
        have e : tenB xs ys = false := by unfold tenB; rw [hall, Bool.and_false, Bool.and_false]
        rw [e]
        rw [hall] at hw
        rw [← hl] at hz
        clear e hgood hall h h2 hl hpb
        go_enter Tryz.func24, Tryz.ntmps24
        go_upto_region 1 with fail
        go_quiet (first | (go_at_call 42; exact quietSame (hg _ (by (repeat' (first | exact Below.refl _ _ | refine below_drewN ?_ _ | refine Below.drew ?_ | refine Below.alloc ?_ (by first | omega | (simp <;> omega)) _)))).out) | (go_at_call 43; exact quietSame (hz _ (by (repeat' (first | exact Below.refl _ _ | refine below_drewN ?_ _ | refine Below.drew ?_ | refine Below.alloc ?_ (by first | omega | (simp <;> omega)) _)))).out) | (go_at_call 44; exact quietSame (hw _ (by (repeat' (first | exact Below.refl _ _ | refine below_drewN ?_ _ | refine Below.drew ?_ | refine Below.alloc ?_ (by first | omega | (simp <;> omega)) _)))).out))
        go_wp2_with fail
        go_ret
        exact ⟨rfl, (by (repeat' (first | exact Below.refl _ _ | refine below_drewN ?_ _ | refine Below.drew ?_ | refine Below.alloc ?_ (by first | omega | (simp <;> omega)) _)))⟩
      | true =>
        have e : tenB xs ys = true := by unfold tenB; rw [hgood, hall, decide_eq_true hl]; rfl
        rw [e]
        rw [hall] at hw
        rw [← hl] at hz
        clear e hgood hall h h2 hl hpb
        go_enter Tryz.func24, Tryz.ntmps24
        go_upto_region 1 with fail
        go_quiet (first | (go_at_call 42; exact quietSame (hg _ (by (repeat' (first | exact Below.refl _ _ | refine below_drewN ?_ _ | refine Below.drew ?_ | refine Below.alloc ?_ (by first | omega | (simp <;> omega)) _)))).out) | (go_at_call 43; exact quietSame (hz _ (by (repeat' (first | exact Below.refl _ _ | refine below_drewN ?_ _ | refine Below.drew ?_ | refine Below.alloc ?_ (by first | omega | (simp <;> omega)) _)))).out) | (go_at_call 44; exact quietSame (hw _ (by (repeat' (first | exact Below.refl _ _ | refine below_drewN ?_ _ | refine Below.drew ?_ | refine Below.alloc ?_ (by first | omega | (simp <;> omega)) _)))).out))
        go_wp2_with fail
        go_ret
        exact ⟨rfl, (by (repeat' (first | exact Below.refl _ _ | refine below_drewN ?_ _ | refine Below.drew ?_ | refine Below.alloc ?_ (by first | omega | (simp <;> omega)) _)))⟩
    · have e : tenB xs ys = false := by unfold tenB; rw [decide_eq_false hl, Bool.false_and, Bool.and_false]
      have hl2 : ((ys.length : Int) == prodI xs) = false := by simp; exact hl
      rw [e]
      generalize prodI xs = PX at *
      clear e hgood h h2 hw hl
      go_enter Tryz.func24, Tryz.ntmps24
      go_upto_region 1 with fail
      go_quiet (first | (go_at_call 42; exact quietSame (hg _ (by (repeat' (first | exact Below.refl _ _ | refine below_drewN ?_ _ | refine Below.drew ?_ | refine Below.alloc ?_ (by first | omega | (simp <;> omega)) _)))).out) | (go_at_call 43; exact quietSame (hz _ (by (repeat' (first | exact Below.refl _ _ | refine below_drewN ?_ _ | refine Below.drew ?_ | refine Below.alloc ?_ (by first | omega | (simp <;> omega)) _)))).out))
      go_wp2_with fail
      go_ret
      exact ⟨rfl, (by (repeat' (first | exact Below.refl _ _ | refine below_drewN ?_ _ | refine Below.drew ?_ | refine Below.alloc ?_ (by first | omega | (simp <;> omega)) _)))⟩
set_option maxHeartbeats 1000000 in
theorem tenMay_any (a b : Option Addr) (c d : Nat) (xs ys : List Int) (w : World) (h : Ints .i64 w w.heap.size a xs) (h2 : Ints .i64 w w.heap.size b ys) :
    Calls Tryz.prog 5 #[.agg #[.slice a xs.length c, .slice b ys.length d]] w fun e w' => e = .returned (.bool (tenB xs ys)) ∧ Below w.heap.size w w' := by
  have hg := fun w' (hb : Below w.heap.size w w') => Lib.hid (rmay_any a c w.heap.size xs w' (h.below hb (Nat.le_refl _)))
  have hw := fun w' (hb : Below w.heap.size w w') => Lib.hid (words_any b d w.heap.size ys w' (h2.below hb (Nat.le_refl _)))
  have hlen := h2.len
  cases hgood : goodB xs with
  | false =>
    have e : tenB xs ys = false := by unfold tenB; rw [hgood]; rfl
    rw [e]
    rw [hgood] at hg
    clear e hgood hw h h2
    go_enter Tryz.func5, Tryz.ntmps5
    go_upto_region 1 with fail
    go_quiet (first | (go_at_call 17; exact quietSame (hg _ (by (repeat' (first | exact Below.refl _ _ | refine below_drewN ?_ _ | refine Below.drew ?_ | refine Below.alloc ?_ (by first | omega | (simp <;> omega)) _)))).out))
    go_wp2_with fail
    go_ret
    exact ⟨rfl, (by (repeat' (first | exact Below.refl _ _ | refine below_drewN ?_ _ | refine Below.drew ?_ | refine Below.alloc ?_ (by first | omega | (simp <;> omega)) _)))⟩
  | true =>
    have hz := fun w' (hb : Below w.heap.size w w') => Lib.hid (rcount_any a c w.heap.size xs w' (h.below hb (Nat.le_refl _)) (goodB_dims hgood))
    have hcg := countE_good hgood
    rw [hcg] at hz
    have hpb := goodB_prod hgood
    rw [hgood] at hg
    by_cases hl : (ys.length : Int) = prodI xs
    · cases hall : ys.all isW with
      | false =>
        have e : tenB xs ys = false := by unfold tenB; rw [hall, Bool.and_false, Bool.and_false]
        rw [e]
        rw [hall] at hw
        rw [← hl] at hz
        clear e hgood hall h h2 hl hpb
        go_enter Tryz.func5, Tryz.ntmps5
        go_upto_region 1 with fail
        go_quiet (first | (go_at_call 17; exact quietSame (hg _ (by (repeat' (first | exact Below.refl _ _ | refine below_drewN ?_ _ | refine Below.drew ?_ | refine Below.alloc ?_ (by first | omega | (simp <;> omega)) _)))).out) | (go_at_call 18; exact quietSame (hz _ (by (repeat' (first | exact Below.refl _ _ | refine below_drewN ?_ _ | refine Below.drew ?_ | refine Below.alloc ?_ (by first | omega | (simp <;> omega)) _)))).out) | (go_at_call 19; exact quietSame (hw _ (by (repeat' (first | exact Below.refl _ _ | refine below_drewN ?_ _ | refine Below.drew ?_ | refine Below.alloc ?_ (by first | omega | (simp <;> omega)) _)))).out))
        go_wp2_with fail
        go_ret
        exact ⟨rfl, (by (repeat' (first | exact Below.refl _ _ | refine below_drewN ?_ _ | refine Below.drew ?_ | refine Below.alloc ?_ (by first | omega | (simp <;> omega)) _)))⟩
      | true =>
        have e : tenB xs ys = true := by unfold tenB; rw [hgood, hall, decide_eq_true hl]; rfl
        rw [e]
        rw [hall] at hw
        rw [← hl] at hz
        clear e hgood hall h h2 hl hpb
        go_enter Tryz.func5, Tryz.ntmps5
        go_upto_region 1 with fail
        go_quiet (first | (go_at_call 17; exact quietSame (hg _ (by (repeat' (first | exact Below.refl _ _ | refine below_drewN ?_ _ | refine Below.drew ?_ | refine Below.alloc ?_ (by first | omega | (simp <;> omega)) _)))).out) | (go_at_call 18; exact quietSame (hz _ (by (repeat' (first | exact Below.refl _ _ | refine below_drewN ?_ _ | refine Below.drew ?_ | refine Below.alloc ?_ (by first | omega | (simp <;> omega)) _)))).out) | (go_at_call 19; exact quietSame (hw _ (by (repeat' (first | exact Below.refl _ _ | refine below_drewN ?_ _ | refine Below.drew ?_ | refine Below.alloc ?_ (by first | omega | (simp <;> omega)) _)))).out))
        go_wp2_with fail
        go_ret
        exact ⟨rfl, (by (repeat' (first | exact Below.refl _ _ | refine below_drewN ?_ _ | refine Below.drew ?_ | refine Below.alloc ?_ (by first | omega | (simp <;> omega)) _)))⟩
    · have e : tenB xs ys = false := by unfold tenB; rw [decide_eq_false hl, Bool.false_and, Bool.and_false]
      have hl2 : ((ys.length : Int) == prodI xs) = false := by simp; exact hl
      rw [e]
      generalize prodI xs = PX at *
      clear e hgood h h2 hw hl
      go_enter Tryz.func5, Tryz.ntmps5
      go_upto_region 1 with fail
      go_quiet (first | (go_at_call 17; exact quietSame (hg _ (by (repeat' (first | exact Below.refl _ _ | refine below_drewN ?_ _ | refine Below.drew ?_ | refine Below.alloc ?_ (by first | omega | (simp <;> omega)) _)))).out) | (go_at_call 18; exact quietSame (hz _ (by (repeat' (first | exact Below.refl _ _ | refine below_drewN ?_ _ | refine Below.drew ?_ | refine Below.alloc ?_ (by first | omega | (simp <;> omega)) _)))).out))
      go_wp2_with fail
      go_ret
      exact ⟨rfl, (by (repeat' (first | exact Below.refl _ _ | refine below_drewN ?_ _ | refine Below.drew ?_ | refine Below.alloc ?_ (by first | omega | (simp <;> omega)) _)))⟩

theorem ints_setCell {k : IntKind} {w : World} {hi : Nat} {a : Option Addr} {xs : List Int} {q o : Nat} {v : Value} (h : Ints k w hi a xs) (hne : xs.length = 0 ∨ ∃ g, a = some ⟨g, 0, none⟩ ∧ q < g) : Ints k (w.setCell ⟨q, o, none⟩ v) hi a xs :=
  ⟨h.len, h.wf, fun i hi' => by
    obtain ⟨b, off, ha, hlt, hc⟩ := h.cell i hi'
    refine ⟨b, off, ha, hlt, ?_⟩
    rcases hne with h0 | ⟨g, hg, hq⟩
    · omega
    · rw [ha] at hg
      cases hg
      rw [← hc]
      have hn : ¬ b = q := by omega
      go_simp⟩
theorem own_cap {w : World} {base : Nat} {e : TypeId} {a : Option Addr} {n c : Nat} {xs : List Value} (h : w.ownsRow base e 1 (.slice a n c) n xs) : n ≤ c ∧ c ≤ 9223372036854775807 := by
  rcases h.2 with ⟨h1, h2⟩ | ⟨g, cap, cur, h1, _, _, h4, h5, _⟩
  · cases h1
    omega
  · cases h1
    unfold maxLen at h5
    omega
/-- A row of one's own below a bound. -/
structure OwnB (w : World) (base mid : Nat) (e : TypeId) (v : Value) (n : Nat) (xs : List Value) : Prop where
  own : w.ownsRow base e 1 v n xs
  lt : ∀ g, v.ownBlock = some g → g < mid
theorem ownB_nil (w : World) (base mid : Nat) (e : TypeId) : OwnB w base mid e (.slice none 0 0) 0 [] := ⟨World.ownsRow_nil _ _ _ _, fun g h => by simp [Value.ownBlock] at h⟩
theorem OwnB.at {w w' : World} {base mid : Nat} {e : TypeId} {v : Value} {n : Nat} {xs : List Value} (h : OwnB w base mid e v n xs) (hq : ∀ g, v.ownBlock = some g → w'.heap[g]? = w.heap[g]?) : OwnB w' base mid e v n xs := by
  refine ⟨⟨h.own.1, h.own.2.imp id ?_⟩, h.lt⟩
  rintro ⟨g, cap, cur, h1, h2, h3, h4⟩
  exact ⟨g, cap, cur, h1, h2, (hq g (by rw [h1]; rfl)).trans h3, h4⟩
theorem OwnB.below {w w' : World} {base mid B : Nat} {e : TypeId} {v : Value} {n : Nat} {xs : List Value} (h : OwnB w base mid e v n xs) (hb : Below B w w') (hB : mid ≤ B) : OwnB w' base mid e v n xs :=
  h.at fun g hg => hb.block g (Nat.lt_of_lt_of_le (h.lt g hg) hB)
theorem OwnB.set {w : World} {base mid q o : Nat} {e : TypeId} {v x : Value} {n : Nat} {xs : List Value} (h : OwnB w base mid e v n xs) (hq : q < base ∨ mid ≤ q) : OwnB (w.setCell ⟨q, o, none⟩ x) base mid e v n xs := by
  refine h.at fun g hg => ?_
  have h1 := (h.own.lt g hg).1
  have h2 := h.lt g hg
  exact Below.heap_setCell w _ x g (by show g ≠ q; omega)
theorem OwnB.mono {w : World} {base base' mid mid' : Nat} {e : TypeId} {v : Value} {n : Nat} {xs : List Value} (h : OwnB w base mid e v n xs) (hb : base' ≤ base) (hm : mid ≤ mid') : OwnB w base' mid' e v n xs :=
  ⟨own_mono h.own hb, fun g hg => Nat.lt_of_lt_of_le (h.lt g hg) hm⟩
theorem OwnB.of {w : World} {base : Nat} {e : TypeId} {v : Value} {n : Nat} {xs : List Value} (h : w.ownsRow base e 1 v n xs) : OwnB w base w.heap.size e v n xs := ⟨h, fun g hg => (h.lt g hg).2⟩
theorem OwnB.shape {w : World} {base mid : Nat} {e : TypeId} {a : Option Addr} {n c : Nat} {xs : List Value} (h : OwnB w base mid e (.slice a n c) n xs) : n = 0 ∨ ∃ g, a = some ⟨g, 0, none⟩ ∧ base ≤ g := by
  obtain ⟨a', c', he, hh⟩ := own_shape h.own
  cases he
  exact hh.imp id (fun ⟨g, h1, h2, _⟩ => ⟨g, h1, h2⟩)
/-- A tensor handed back, of the call's own: its shape reads and is the call's own, its words are a row beyond mid. -/
def RetNew (w : World) (xs : List Int) (n : Nat) (e : Ending) (w' : World) : Prop :=
  ∃ a c b d mid, e = .returned (.agg #[.slice a xs.length c, .slice b n d]) ∧ w.heap.size ≤ mid ∧ mid ≤ w'.heap.size ∧ Ints .i64 w' mid a xs ∧ ((xs.length ≤ c ∧ c ≤ 9223372036854775807) ∧ OwnB w' w.heap.size mid 3 (.slice a xs.length c) xs.length (xs.map (Value.int .i64))) ∧ w'.ownsRow mid 2 1 (.slice b n d) n ((List.replicate n (0 : Int)).map (Value.int .i64)) ∧ Below w.heap.size w w'
set_option maxHeartbeats 1000000 in
theorem elemNew_any (a : Option Addr) (c : Nat) (xs : List Int) (w : World) (h : Ints .i64 w w.heap.size a xs) (hg : goodB xs = true) :
    Calls Tryz.prog 31 #[.slice a xs.length c] w (RetNew w xs (prodI xs).toNat) := by
  have hlen := (goodB_iff.1 hg).1
  have hp := goodB_prod hg
  have hwf := h.wf
  have hcl := fun w' (hb : Below w.heap.size w w') => Lib.hid (clone_any a c xs w' ((h.below hb (Nat.le_refl _)).mono hb.size) (by omega))
  have hsz := fun w' (hb : Below w.heap.size w w') => Lib.hid (size_any a c w.heap.size xs w' (h.below hb (Nat.le_refl _)) hg)
  have hm := h.len
  have hN : prodI xs = ((prodI xs).toNat : Int) := by omega
  generalize (prodI xs).toNat = N at hN ⊢
  rw [hN] at hsz hp
  have hNb : N ≤ 65536 := by omega
  clear h hg hN hp
  go_enter Tryz.func31, Tryz.ntmps31
  go_upto_region 1 with fail
  go_wp2_with (first | (go_at_call 51; refine (hcl _ (by (repeat' (first | exact Below.refl _ _ | refine below_drewN ?_ _ | refine Below.drew ?_ | refine Below.setCell ?_ (by first | omega | (simp <;> omega)) _ | refine Below.alloc ?_ (by first | omega | (simp <;> omega)) _)))).out.mono ?_; rintro e w1 ⟨v, rfl, hown, hb⟩; have HB1 := Lib.hid hb; have hs1 := hb.size; (try simp at hs1); have X := Box2.below (b := w.heap.size) (v0 := .slice none 0 0) (v1 := .slice none 0 0) (by constructor <;> go_simp) hb (by first | omega | (simp <;> omega)); obtain ⟨p0, p1, p2, p3⟩ := X; have HO := Lib.hid hown; obtain ⟨a1, c1, rfl, hsh⟩ := own_shape hown; have HSH := Lib.hid hsh; have hlq : w.heap.size < w1.heap.size := (by omega); clear hb hown hsh) | (go_at_call 43; refine (hsz _ (Below.trans (by (repeat' (first | exact Below.refl _ _ | refine below_drewN ?_ _ | refine Below.drew ?_ | refine Below.setCell ?_ (by first | omega | (simp <;> omega)) _ | refine Below.alloc ?_ (by first | omega | (simp <;> omega)) _))) (HB1.out.mono (by first | omega | (simp <;> omega))))).out.mono ?_; rintro e w' ⟨rfl, rfl⟩) | (at_make; (refine wpl_make 24 2 .i64 infoI64 Tryz.underlying24 w1.heap.size N _ _ _ _ rfl rfl rfl rfl rfl rfl (by omega) (Nat.le_refl _) ?_); intro w2 hown2 hbel2 hsz2; have HO2 := Lib.hid hown2; have HB2 := Lib.hid (hbel2 w1.heap.size (Nat.le_refl _)); have X := Box2.below (b := w.heap.size) (v0 := .slice none 0 0) (v1 := .slice none 0 0) ⟨p0, p1, p2, p3⟩ HB2.out hlq; obtain ⟨q0, q1, q2, q3⟩ := X; clear hown2 hbel2))
  (try simp only [Exit.noGoto, Exit.inBlock, Exit.then])
  refine bodyPost_ret (v := .agg #[.slice a1 xs.length c1, .slice (some ⟨w1.heap.size, 0, none⟩) N N]) (by rw [results_c1 rfl]; go_simp) rfl ⟨a1, c1, _, N, w1.heap.size, rfl, by omega, ?_, ?_, ⟨own_cap HO.out, ((((OwnB.of HO.out).below HB2.out (Nat.le_refl _)).set (.inl (by simp))).set (.inl (by simp))).mono (by simp) (Nat.le_refl _)⟩, ?_, ?_⟩
  · simp
    omega
  · obtain ⟨a2, c2, he, hI⟩ := own_ints HO.out hwf
    cases he
    have hI2 := hI.below HB2.out (Nat.le_refl _)
    have hq : xs.length = 0 ∨ ∃ g, a1 = some ⟨g, 0, none⟩ ∧ w.heap.size < g := HSH.out.imp id (by rintro ⟨g, hg, hb, _⟩; exact ⟨g, hg, by simp at hb; omega⟩)
    exact ints_setCell (ints_setCell hI2 hq) hq
  · exact ownsRow_setCell_below (ownsRow_setCell_below HO2.out (by simpa using hlq) _) (by simpa using hlq) _
  · iterate 2 refine Below.setCell ?_ (by first | omega | (simp <;> omega)) _
    exact Below.trans (by (repeat' (first | exact Below.refl _ _ | refine below_drewN ?_ _ | refine Below.drew ?_ | refine Below.setCell ?_ (by first | omega | (simp <;> omega)) _ | refine Below.alloc ?_ (by first | omega | (simp <;> omega)) _))) (Below.trans (HB1.out.mono (by first | omega | (simp <;> omega))) (HB2.out.mono (by first | omega | (simp <;> omega))))

theorem intsTake {k : IntKind} {w : World} {hi : Nat} {a : Option Addr} {xs : List Int} (h : Ints k w hi a xs) (j : Nat) : Ints k w hi a (xs.take j) :=
  ⟨by have := h.len; simp; omega, fun x hx => h.wf x (List.mem_of_mem_take hx), fun i hi' => by
    have hl : i < xs.length ∧ i < j := by simp at hi'; omega
    obtain ⟨b, off, ha, hlt, hc⟩ := h.cell i hl.1
    refine ⟨b, off, ha, hlt, ?_⟩
    rw [hc, List.getElem?_take, if_pos hl.2]⟩

theorem wrap_nat' (q : Nat) (h : q ≤ 9223372036854775807) : RowKit.wrap64 (q : Int) = q := by unfold RowKit.wrap64; omega
theorem take_drop_get (l : List Int) (s n i : Nat) (h : i < n) : ((l.drop s).take n)[i]?.getD 0 = l[s + i]?.getD 0 := by
  rw [List.getElem?_take, if_pos h, List.getElem?_drop]
/-- The first a words of G, then noughts. -/
def partL (G : Nat → Int) (N a : Nat) : List Int := (List.range N).map fun j => if j < a then G j else 0
theorem partL_len (G : Nat → Int) (N a : Nat) : (partL G N a).length = N := by simp [partL]
theorem partL_zero (G : Nat → Int) (N : Nat) : partL G N 0 = List.replicate N 0 := by
  apply List.ext_getElem
  · simp [partL]
  · intro i h1 h2
    simp [partL]
theorem partL_full (G : Nat → Int) (N : Nat) : partL G N N = (List.range N).map G := by
  apply List.ext_getElem
  · simp [partL]
  · intro i h1 h2
    simp [partL] at h1 ⊢
    omega
theorem partL_set (G : Nat → Int) (N a : Nat) : (partL G N a).set a (G a) = partL G N (a + 1) := by
  apply List.ext_getElem
  · simp [partL]
  · intro i h1 h2
    rw [List.getElem_set]
    simp [partL] at h1 ⊢
    by_cases h : a = i
    · subst h
      simp
    · rw [if_neg h]
      by_cases h3 : i < a
      · rw [if_pos h3, if_pos (by omega)]
      · rw [if_neg h3, if_neg (by omega)]
/-- A tensor in memory, below block hi. -/
structure Ten (w : World) (hi : Nat) (a : Option Addr) (c : Nat) (b : Option Addr) (d : Nat) (xs ys : List Int) : Prop where
  sh : Ints .i64 w hi a xs
  da : Ints .i64 w hi b ys
  c1 : xs.length ≤ c
  c2 : c ≤ 9223372036854775807
  d1 : ys.length ≤ d
  d2 : d ≤ 9223372036854775807
theorem Ten.below {w w' : World} {hi B : Nat} {a b : Option Addr} {c d : Nat} {xs ys : List Int} (h : Ten w hi a c b d xs ys) (hb : Below B w w') (hB : hi ≤ B) : Ten w' hi a c b d xs ys :=
  ⟨h.sh.below hb hB, h.da.below hb hB, h.c1, h.c2, h.d1, h.d2⟩
theorem Ten.mono {w : World} {hi hi' : Nat} {a b : Option Addr} {c d : Nat} {xs ys : List Int} (h : Ten w hi a c b d xs ys) (hh : hi ≤ hi') : Ten w hi' a c b d xs ys :=
  ⟨h.sh.mono hh, h.da.mono hh, h.c1, h.c2, h.d1, h.d2⟩
theorem Ten.next {w w' : World} {a b : Option Addr} {c d : Nat} {xs ys : List Int} (h : Ten w w.heap.size a c b d xs ys) (hb : Below w.heap.size w w') : Ten w' w'.heap.size a c b d xs ys :=
  (h.below hb (Nat.le_refl _)).mono hb.size
/-- A tensor and an error handed back: the words are a row of the call's own, beyond mid. -/
def RetTen (w : World) (xs ys : List Int) (z : Int) (e : Ending) (w' : World) : Prop :=
  ∃ a c b d mid, e = .returned (.tuple #[.agg #[.slice a xs.length c, .slice b ys.length d], .int .i64 z]) ∧ w.heap.size ≤ mid ∧ mid ≤ w'.heap.size ∧ Ints .i64 w' mid a xs ∧ ((xs.length ≤ c ∧ c ≤ 9223372036854775807) ∧ OwnB w' w.heap.size mid 3 (.slice a xs.length c) xs.length (xs.map (Value.int .i64))) ∧
    w'.ownsRow mid 2 1 (.slice b ys.length d) ys.length (ys.map (Value.int .i64)) ∧ Below w.heap.size w w'
theorem intsSub {k : IntKind} {w : World} {hi b o : Nat} {xs : List Int} (h : Ints k w hi (some ⟨b, o, none⟩) xs) (s n : Nat) (hs : s + n ≤ xs.length) : Ints k w hi (some ⟨b, o + s, none⟩) ((xs.drop s).take n) ∧ ((xs.drop s).take n).length = n :=
  ⟨⟨by have := h.len; simp; omega, fun x hx => h.wf x (List.mem_of_mem_drop (List.mem_of_mem_take hx)), fun i hi' => by
    have hl : i < n := by simp at hi'; omega
    obtain ⟨b2, o2, ha, hlt, hc⟩ := h.cell (s + i) (by omega)
    cases ha
    refine ⟨_, _, rfl, hlt, ?_⟩
    rw [Nat.add_assoc, hc, take_drop_get _ _ _ _ hl]⟩, by simp; omega⟩
theorem box2_new (w : World) (v0 v1 : Value) (t : TypeId) : Box2 (w.alloc (.cells #[v0, v1] t)) w.heap.size v0 v1 := by constructor <;> go_simp
/-- A tensor of the call's own that is being filled: its header in block Q, its words in block g; below mid nothing has turned since W. -/
structure Fill (W wr : World) (mid Q g d N : Nat) (v0 v1 : Value) (xs : List Int) : Prop where
  sz : W.heap.size ≤ wr.heap.size
  bel : Below mid W wr
  row : wr.ownsRow mid 2 1 (.slice (some ⟨g, 0, none⟩) N d) N (xs.map (Value.int .i64))
  box : Box2 wr Q v0 v1
theorem Fill.lt {W wr : World} {mid Q g d N : Nat} {v0 v1 : Value} {xs : List Int} (h : Fill W wr mid Q g d N v0 v1 xs) : mid ≤ g ∧ g < wr.heap.size := h.row.lt g rfl
theorem Fill.ltQ {W wr : World} {mid Q g d N : Nat} {v0 v1 : Value} {xs : List Int} (h : Fill W wr mid Q g d N v0 v1 xs) : Q < wr.heap.size := World.block_lt_of_cell? wr _ h.box.c0
theorem Fill.next {W wr w' : World} {mid Q g d N : Nat} {v0 v1 : Value} {xs : List Int} (h : Fill W wr mid Q g d N v0 v1 xs) (hb : Below wr.heap.size wr w') : Fill W w' mid Q g d N v0 v1 xs :=
  ⟨Nat.le_trans h.sz hb.size, h.bel.trans (hb.mono (Nat.le_of_lt (Nat.lt_of_le_of_lt h.lt.1 h.lt.2))), own_below h.row hb (Nat.le_refl _), h.box.below hb h.ltQ⟩
theorem Fill.set {W wr : World} {mid Q g d N : Nat} {v0 v1 : Value} {xs : List Int} (h : Fill W wr mid Q g d N v0 v1 xs) (j : Nat) (x : Int) (hQ : Q ≠ g) : Fill W (wr.setCell ⟨g, j, none⟩ (.int .i64 x)) mid Q g d N v0 v1 (xs.set j x) := by
  refine ⟨by simpa using h.sz, h.bel.setCell h.lt.1 _, ?_, ?_⟩
  · have := (h.row.stored j (.int .i64 x)).1
    rwa [map_set] at this
  · obtain ⟨c0, c1, f0, f1⟩ := h.box
    constructor <;> go_simp
theorem Fill.cell {W wr : World} {mid Q g d N : Nat} {v0 v1 : Value} {xs : List Int} (h : Fill W wr mid Q g d N v0 v1 xs) (j : Nat) (hj : j < N) : wr.cell? ⟨g, j, none⟩ = some (.int .i64 (xs[j]?.getD 0)) ∧ wr.frozen? ⟨g, j, none⟩ = false :=
  ⟨own_cell h.row hj, h.row.frozenAt j⟩
theorem retTen_bad {w w' : World} {S : List Int} {G : Nat → Int} {N : Nat} {ZX ZY : List Int} {ZE : Int} (hZ : Hid (ZE = 3)) (hX : Hid (ZX = if ZE = 0 then S else [])) (hY : Hid (ZY = if ZE = 0 then (List.range N).map G else []))
    (hb : Below w.heap.size w w') : RetTen w ZX ZY ZE (.returned (.tuple #[.agg #[.slice none 0 0, .slice none 0 0], .int .i64 3])) w' := by
  have e1 := hZ.out
  have e2 := hX.out
  have e3 := hY.out
  rw [e1, if_neg (by decide)] at e2 e3
  subst e1 e2 e3
  exact ⟨none, 0, none, 0, w'.heap.size, rfl, hb.size, Nat.le_refl _, Ints.nil _ _ _ _, ⟨⟨by simp, by decide⟩, ownB_nil _ _ _ _⟩, World.ownsRow_nil _ _ _ _, hb⟩
theorem retTen_fill {w W wr : World} {q mid Q g d N c1 : Nat} {a1 : Option Addr} {S : List Int} {G : Nat → Int} {v0 v1 : Value} {B : Nat}
    (hcap : Hid (S.length ≤ c1 ∧ c1 ≤ 9223372036854775807)) (hsh : Hid (OwnB W B mid 3 (.slice a1 S.length c1) S.length (S.map (Value.int .i64))))
    (hF : Hid (Fill W wr mid Q g d N v0 v1 (partL G N N))) (hI : Hid (Ints .i64 W mid a1 S)) (hqB : q < B) (hwB : w.heap.size ≤ B) (hwm : B ≤ mid) (hwq : w.heap.size ≤ q)
    (hb : Hid (Below w.heap.size w wr)) (x y : Value) :
    RetTen w S ((List.range N).map G) 0 (.returned (.tuple #[.agg #[.slice a1 S.length c1, .slice (some ⟨g, 0, none⟩) N d], .int .i64 0])) ((wr.setCell ⟨q, 0, none⟩ x).setCell ⟨q, 1, none⟩ y) := by
  have hl := hF.out.lt
  have hlen : ((List.range N).map G).length = N := by simp
  have hrow := hF.out.row
  rw [partL_full] at hrow
  have hne : S.length = 0 ∨ ∃ g, a1 = some ⟨g, 0, none⟩ ∧ q < g := hsh.out.shape.imp id (fun ⟨g, hg, h⟩ => ⟨g, hg, by omega⟩)
  refine ⟨a1, c1, some ⟨g, 0, none⟩, d, mid, by rw [hlen], by omega, by simp; omega, ?_, ⟨hcap.out, (((hsh.out.below hF.out.bel (Nat.le_refl _)).set (.inl hqB)).set (.inl hqB)).mono hwB (Nat.le_refl _)⟩, ?_, ?_⟩
  · exact ints_setCell (ints_setCell (hI.out.below hF.out.bel (Nat.le_refl _)) hne) hne
  · rw [hlen]
    have hqm : q < mid := by omega
    exact ownsRow_setCell_below (ownsRow_setCell_below hrow hqm _) hqm _
  · exact (hb.out.setCell hwq _).setCell hwq _
theorem retTen_good {w W wr : World} {q mid Q g d N c1 : Nat} {a1 : Option Addr} {S : List Int} {G : Nat → Int} {ZX ZY : List Int} {ZE : Int} {v0 v1 : Value} {B : Nat}
    (hE : Hid (ZE = if ((List.range N).all fun j => isW (G j)) = true then 0 else 3)) (hX : Hid (ZX = if ZE = 0 then S else [])) (hY : Hid (ZY = if ZE = 0 then (List.range N).map G else []))
    (hG : Hid (∀ j, j < N → isW (G j) = true)) (hcap : Hid (S.length ≤ c1 ∧ c1 ≤ 9223372036854775807)) (hsh : Hid (OwnB W B mid 3 (.slice a1 S.length c1) S.length (S.map (Value.int .i64))))
    (hF : Hid (Fill W wr mid Q g d N v0 v1 (partL G N N))) (hI : Hid (Ints .i64 W mid a1 S)) (hqB : q < B) (hwB : w.heap.size ≤ B) (hwm : B ≤ mid) (hwq : w.heap.size ≤ q)
    (hb : Hid (Below w.heap.size w wr)) (x y : Value) :
    RetTen w ZX ZY ZE (.returned (.tuple #[.agg #[.slice a1 S.length c1, .slice (some ⟨g, 0, none⟩) N d], .int .i64 0])) ((wr.setCell ⟨q, 0, none⟩ x).setCell ⟨q, 1, none⟩ y) := by
  have e1 := hE.out
  have e2 := hX.out
  have e3 := hY.out
  rw [if_pos (List.all_eq_true.2 (fun j hj => hG.out j (by simpa using hj)))] at e1
  rw [e1, if_pos rfl] at e2 e3
  subst e1 e2 e3
  have hl := hF.out.lt
  have hlen : ((List.range N).map G).length = N := by simp
  have hrow := hF.out.row
  rw [partL_full] at hrow
  have hne : ZX.length = 0 ∨ ∃ g, a1 = some ⟨g, 0, none⟩ ∧ q < g := hsh.out.shape.imp id (fun ⟨g, hg, h⟩ => ⟨g, hg, by omega⟩)
  refine ⟨a1, c1, some ⟨g, 0, none⟩, d, mid, by rw [hlen], by omega, by simp; omega, ?_, ⟨hcap.out, (((hsh.out.below hF.out.bel (Nat.le_refl _)).set (.inl hqB)).set (.inl hqB)).mono hwB (Nat.le_refl _)⟩, ?_, ?_⟩
  · exact ints_setCell (ints_setCell (hI.out.below hF.out.bel (Nat.le_refl _)) hne) hne
  · rw [hlen]
    have hqm : q < mid := by omega
    exact ownsRow_setCell_below (ownsRow_setCell_below hrow hqm _) hqm _
  · exact (hb.out.setCell hwq _).setCell hwq _


theorem heavyT_any (a b : Option Addr) (n c m d : Nat) (k : Int) (w : World) (hn : n ≤ 9223372036854775807) (hm : m ≤ 9223372036854775807) :
    Calls Tryz.prog 16 #[.agg #[.slice a n c, .slice b m d], .int .i64 k] w fun e w' => e = .returned (.bool (decide (k < m) || decide (8 < n))) ∧ Below w.heap.size w w' := by
  by_cases h1 : k < (m : Int)
  · rw [decide_eq_true h1, Bool.true_or]
    go_enter Tryz.func16, Tryz.ntmps16
    go_wp2
    go_ret
    exact ⟨rfl, (by (repeat' (first | exact Below.refl _ _ | refine below_drewN ?_ _ | refine Below.drew ?_ | refine Below.setCell ?_ (by first | omega | (simp <;> omega)) _ | refine Below.alloc ?_ (by first | omega | (simp <;> omega)) _)))⟩
  · rw [decide_eq_false h1, Bool.false_or]
    by_cases h2 : 8 < n
    · have h3 : (8 : Int) < (n : Int) := by omega
      rw [decide_eq_true h2]
      go_enter Tryz.func16, Tryz.ntmps16
      go_wp2
      go_ret
      exact ⟨rfl, (by (repeat' (first | exact Below.refl _ _ | refine below_drewN ?_ _ | refine Below.drew ?_ | refine Below.setCell ?_ (by first | omega | (simp <;> omega)) _ | refine Below.alloc ?_ (by first | omega | (simp <;> omega)) _)))⟩
    · have h3 : ¬ (8 : Int) < (n : Int) := by omega
      rw [decide_eq_false h2]
      go_enter Tryz.func16, Tryz.ntmps16
      go_wp2
      go_ret
      exact ⟨rfl, (by (repeat' (first | exact Below.refl _ _ | refine below_drewN ?_ _ | refine Below.drew ?_ | refine Below.setCell ?_ (by first | omega | (simp <;> omega)) _ | refine Below.alloc ?_ (by first | omega | (simp <;> omega)) _)))⟩
set_option maxHeartbeats 1000000 in
theorem eqTensor_any (a b a' b' : Option Addr) (c d c' d' : Nat) (xs ys xs' ys' : List Int) (w : World) (h1 : Ints .i64 w w.heap.size a xs) (h2 : Ints .i64 w w.heap.size b ys) (h3 : Ints .i64 w w.heap.size a' xs') (h4 : Ints .i64 w w.heap.size b' ys') :
    Calls Tryz.prog 14 #[.agg #[.slice a xs.length c, .slice b ys.length d], .agg #[.slice a' xs'.length c', .slice b' ys'.length d']] w fun e w' => e = .returned (.bool (decide (xs = xs') && decide (ys = ys'))) ∧ Below w.heap.size w w' := by
  have e1 := fun w' (hb : Below w.heap.size w w') => Lib.hid (eqNumbers_any a a' c c' w.heap.size xs xs' w' (h1.below hb (Nat.le_refl _)) (h3.below hb (Nat.le_refl _)))
  have e2 := fun w' (hb : Below w.heap.size w w') => Lib.hid (eqWords_any b b' d d' w.heap.size ys ys' w' (h2.below hb (Nat.le_refl _)) (h4.below hb (Nat.le_refl _)))
  generalize decide (xs = xs') = B1 at *
  generalize decide (ys = ys') = B2 at *
  clear h1 h2 h3 h4
  cases B1
  all_goals
    (try simp only [Bool.false_and, Bool.true_and])
    go_enter Tryz.func14, Tryz.ntmps14
    go_wp2_with (first | (go_at_call 33; refine (e1 _ (by (repeat' (first | exact Below.refl _ _ | refine below_drewN ?_ _ | refine Below.drew ?_ | refine Below.setCell ?_ (by first | omega | (simp <;> omega)) _ | refine Below.alloc ?_ (by first | omega | (simp <;> omega)) _)))).out.mono ?_; rintro e w' ⟨rfl, q1, rfl⟩) | (go_at_call 34; refine (e2 _ (by (repeat' (first | exact Below.refl _ _ | refine below_drewN ?_ _ | refine Below.drew ?_ | refine Below.setCell ?_ (by first | omega | (simp <;> omega)) _ | refine Below.alloc ?_ (by first | omega | (simp <;> omega)) _)))).out.mono ?_; rintro e w' ⟨rfl, q2, rfl⟩))
    go_ret
    exact ⟨rfl, (by (repeat' (first | exact Below.refl _ _ | refine below_drewN ?_ _ | refine Below.drew ?_ | refine Below.setCell ?_ (by first | omega | (simp <;> omega)) _ | refine Below.alloc ?_ (by first | omega | (simp <;> omega)) _)))⟩

end Go.Proofs.YtimjhjacinchjaaGreat
namespace Go.Rt
open Go.RowKit Go.ChangeShapes Go.WideShapes Go.Deep
section
variable {H : Type} {enc : TypeId × Value → H} {P : Program} {w : World} {spare : Nat → Bool} {held : Bool}
theorem trod_ints_cap {t e : TypeId} {k : IntKind} {fuel : Nat} {v : Value} {x : DataW H × List MemPlace} (ht : P.underlying t = some (.slice e)) (he : P.underlying e = some (.int k)) (hc : P.cellsOf e = 1)
    (h : DataW.trod enc P w 0 spare held fuel t [v] = some x) : ∃ a xs c, v = .slice a xs.length c ∧ Ints k w w.heap.size a xs ∧ xs.length ≤ c ∧ c ≤ 9223372036854775807 := by
  obtain ⟨a, xs, c, rfl, hI⟩ := trod_ints ht he hc h
  refine ⟨a, xs, c, rfl, hI, ?_⟩
  rcases open_ints ht he hc h with ⟨hcs, _⟩ | ⟨a, len, cap, zs, hcs, _, hl, hm, hz, _, hcell, hwf⟩
  · simp at hcs
    obtain ⟨_, h1, h2⟩ := hcs
    rw [h1, h2]
    simp
  · simp at hcs
    obtain ⟨_, h1, h2⟩ := hcs
    unfold maxLen at hm
    omega
end
end Go.Rt
namespace Go.Proofs.YtimjhjacinchjaaGreat
open Go.ChangeShapes Go.WideShapes Go.RowKit Go.Rt

structure TenV where
  a : Option Addr
  c : Nat
  b : Option Addr
  d : Nat
  xs : List Int
  ys : List Int

/-- In W: the tensors T read, the cells C hold (and may be written); below B nothing has turned since w0. -/
structure TEnv (B : Nat) (w0 W : World) (T : List TenV) (C : List (Addr × Value)) : Prop where
  hB : B ≤ W.heap.size
  bel : Below B w0 W
  tens : ∀ p ∈ T, Ten W W.heap.size p.a p.c p.b p.d p.xs p.ys
  cells : ∀ p ∈ C, W.cell? p.1 = some p.2 ∧ p.1.block < W.heap.size

section
variable {B : Nat} {w0 W W' : World} {T : List TenV} {C : List (Addr × Value)}
theorem TEnv.next (h : TEnv B w0 W T C) (hb : Below W.heap.size W W') : TEnv B w0 W' T C :=
  ⟨Nat.le_trans h.hB hb.size, h.bel.trans (hb.mono h.hB), fun p hp => (h.tens p hp).next hb,
   fun p hp => ⟨(hb.cell (p := p.1) (h.cells p hp).2).trans (h.cells p hp).1, Nat.lt_of_lt_of_le (h.cells p hp).2 hb.size⟩⟩
theorem TEnv.drewN (h : TEnv B w0 W T C) (q : Nat) : TEnv B w0 (W.drewN q) T C := h.next (below_drewN (Below.refl _ _) q)
theorem TEnv.alloc (h : TEnv B w0 W T C) (o : Obj) : TEnv B w0 (W.alloc o) T C := h.next ((Below.refl _ _).alloc (Nat.le_refl _) _)
theorem TEnv.ten (h : TEnv B w0 W T C) {a b : Option Addr} {c d : Nat} {xs ys : List Int} (hp : (⟨a, c, b, d, xs, ys⟩ : TenV) ∈ T) : Ten W W.heap.size a c b d xs ys := h.tens _ hp
theorem TEnv.cell (h : TEnv B w0 W T C) {a : Addr} {v : Value} (hp : (a, v) ∈ C) : W.cell? a = some v := (h.cells _ hp).1
theorem TEnv.lt (h : TEnv B w0 W T C) {a : Addr} {v : Value} (hp : (a, v) ∈ C) : a.block < W.heap.size := (h.cells _ hp).2
theorem TEnv.addT (h : TEnv B w0 W T C) {a b : Option Addr} {c d : Nat} {xs ys : List Int} (ht : Ten W W.heap.size a c b d xs ys) : TEnv B w0 W (⟨a, c, b, d, xs, ys⟩ :: T) C :=
  ⟨h.hB, h.bel, fun p hp => by
    rcases List.mem_cons.1 hp with rfl | hp
    · exact ht
    · exact h.tens p hp, h.cells⟩
theorem TEnv.addC (h : TEnv B w0 W T C) {a : Addr} {v : Value} (hc : W.cell? a = some v) : TEnv B w0 W T ((a, v) :: C) :=
  ⟨h.hB, h.bel, h.tens, fun p hp => by
    rcases List.mem_cons.1 hp with rfl | hp
    · exact ⟨hc, World.block_lt_of_cell? W a hc⟩
    · exact h.cells p hp⟩
/-- A new variable of two cells. -/
theorem TEnv.box (h : TEnv B w0 W T C) (v0 v1 : Value) (t : TypeId) : TEnv B w0 (W.alloc (.cells #[v0, v1] t)) T ((⟨W.heap.size, 0, none⟩, v0) :: (⟨W.heap.size, 1, none⟩, v1) :: C) :=
  ((h.alloc _).addC (box2_new W v0 v1 t).c1).addC (box2_new W v0 v1 t).c0
theorem TEnv.start (W : World) : TEnv W.heap.size W W [] [] := ⟨Nat.le_refl _, Below.refl _ _, by simp, by simp⟩

theorem word_wf {x : Int} (h : isW x = true) : (Lit.int .i64 x).wf = true := by
  have := isW_iff.1 h
  exact wf_i64_iff.2 ⟨by omega, by omega⟩

theorem ten_made {mid : Nat} {a b : Option Addr} {c d : Nat} {xs ys : List Int} (hm : mid ≤ W'.heap.size) (hI : Ints .i64 W' mid a xs) (hc : xs.length ≤ c ∧ c ≤ 9223372036854775807)
    (hO : W'.ownsRow mid 2 1 (.slice b ys.length d) ys.length (ys.map (Value.int .i64))) (hw : ∀ y ∈ ys, isW y = true) : Ten W' W'.heap.size a c b d xs ys := by
  obtain ⟨a2, c2, he, hI2⟩ := own_ints hO (fun y hy => word_wf (hw y hy))
  cases he
  obtain ⟨k1, k2⟩ := own_cap hO
  exact ⟨hI.mono hm, hI2, hc.1, hc.2, k1, k2⟩
/-- A call that made a tensor. -/
theorem TEnv.made (h : TEnv B w0 W T C) {mid : Nat} {a b : Option Addr} {c d : Nat} {xs ys : List Int} (hb : Below W.heap.size W W') (hm : mid ≤ W'.heap.size) (hI : Ints .i64 W' mid a xs) (hc : xs.length ≤ c ∧ c ≤ 9223372036854775807)
    (hO : W'.ownsRow mid 2 1 (.slice b ys.length d) ys.length (ys.map (Value.int .i64))) (hw : ∀ y ∈ ys, isW y = true) : TEnv B w0 W' (⟨a, c, b, d, xs, ys⟩ :: T) C :=
  (h.next hb).addT (ten_made hm hI hc hO hw)
end

theorem ints2 {W : World} {b : Nat} {x y : Int} (h0 : W.cell? ⟨b, 0, none⟩ = some (.int .i64 x)) (h1 : W.cell? ⟨b, 1, none⟩ = some (.int .i64 y)) (hx : (Lit.int .i64 x).wf = true) (hy : (Lit.int .i64 y).wf = true) : Ints .i64 W W.heap.size (some ⟨b, 0, none⟩) [x, y] :=
  ⟨by simp, by simp [hx, hy], fun i hi => by
    have hb := World.block_lt_of_cell? W _ h0
    match i, hi with
    | 0, _ => exact ⟨b, 0, rfl, hb, h0⟩
    | 1, _ => exact ⟨b, 0, rfl, hb, h1⟩⟩
theorem ints1 {W : World} {b : Nat} {x : Int} (h0 : W.cell? ⟨b, 0, none⟩ = some (.int .i64 x)) (hx : (Lit.int .i64 x).wf = true) : Ints .i64 W W.heap.size (some ⟨b, 0, none⟩) [x] :=
  ⟨by simp, by simp [hx], fun i hi => by
    have hb := World.block_lt_of_cell? W _ h0
    match i, hi with
    | 0, _ => exact ⟨b, 0, rfl, hb, h0⟩⟩

theorem own1 : ownKnob Tryz.prog.godebug = none := by kernel_rfl
theorem laidOut1 : laidOutB Tryz.prog = true := by kernel_rfl
theorem cellsI1 : Tryz.prog.cellsOf 2 = 1 := by kernel_rfl
theorem cellsN1 : Tryz.prog.cellsOf 3 = 1 := by kernel_rfl
theorem cellsSl1 : Tryz.prog.cellsOf 23 = 1 := by kernel_rfl
theorem cellsSl2 : Tryz.prog.cellsOf 24 = 1 := by kernel_rfl
theorem cellsT1 : Tryz.prog.cellsOf 26 = 2 := by kernel_rfl
theorem list5 {α : Type} {cs : List α} (h : cs.length = 5) : ∃ a b c d e, cs = [a, b, c, d, e] := by
  match cs, h with
  | [a, b, c, d, e], _ => exact ⟨a, b, c, d, e, rfl⟩
theorem ten_of_trod {H : Type} {enc : TypeId × Value → H} {W : World} {spare : Nat → Bool} {held : Bool} {fuel : Nat} {v0 v1 : Value} {x : DataW H × List MemPlace}
    (h : DataW.trod enc Tryz.prog W 0 spare held fuel 26 [v0, v1] = some x) : ∃ p : TenV, v0 = .slice p.a p.xs.length p.c ∧ v1 = .slice p.b p.ys.length p.d ∧ Ten W W.heap.size p.a p.c p.b p.d p.xs p.ys := by
  obtain ⟨n0, y0, u0, hu0, ht0⟩ := trod_field1 Tryz.underlying26 h 0 _ rfl cellsSl1 (by show 0 < 2; omega)
  obtain ⟨n1, y1, u1, hu1, ht1⟩ := trod_field1 Tryz.underlying26 h 1 _ rfl cellsSl2 (by show 1 < 2; omega)
  have e0 : v0 = u0 := by simpa using hu0
  have e1 : v1 = u1 := by simpa using hu1
  subst e0; subst e1
  obtain ⟨a, xs, c, rfl, hI, hc, hc2⟩ := trod_ints_cap Tryz.underlying23 Tryz.underlying3 cellsN1 ht0
  obtain ⟨b, ys, d, rfl, hI2, hd, hd2⟩ := trod_ints_cap Tryz.underlying24 Tryz.underlying2 cellsI1 ht1
  exact ⟨⟨a, c, b, d, xs, ys⟩, rfl, rfl, hI, hI2, hc, hc2, hd, hd2⟩
theorem TEnv.cellN {B : Nat} {w0 W : World} {T : List TenV} {C : List (Addr × Value)} (h : TEnv B w0 W T C) (k : Nat) {a : Addr} {v : Value} (hk : C[k]? = some (a, v)) : W.cell? a = some v := h.cell (List.mem_of_getElem? hk)
theorem TEnv.ltN {B : Nat} {w0 W : World} {T : List TenV} {C : List (Addr × Value)} (h : TEnv B w0 W T C) (k : Nat) {a : Addr} {v : Value} (hk : C[k]? = some (a, v)) : a.block < W.heap.size := h.lt (List.mem_of_getElem? hk)
theorem TEnv.tenN {B : Nat} {w0 W : World} {T : List TenV} {C : List (Addr × Value)} (h : TEnv B w0 W T C) (k : Nat) {a b : Option Addr} {c d : Nat} {xs ys : List Int} (hk : T[k]? = some ⟨a, c, b, d, xs, ys⟩) : Ten W W.heap.size a c b d xs ys := h.ten (List.mem_of_getElem? hk)
/-- A list that is being rewritten in place: the first k words are told by f. -/
def mixL (f : Nat → Int) (ys : List Int) (k : Nat) : List Int := (List.range ys.length).map fun j => if j < k then f j else ys[j]?.getD 0
theorem mixL_len (f : Nat → Int) (ys : List Int) (k : Nat) : (mixL f ys k).length = ys.length := by simp [mixL]
theorem mixL_zero (f : Nat → Int) (ys : List Int) : mixL f ys 0 = ys := by
  apply List.ext_getElem
  · simp [mixL]
  · intro i h1 h2
    simp [mixL, List.getElem?_eq_getElem h2]
theorem mixL_full (f : Nat → Int) (ys : List Int) : mixL f ys ys.length = (List.range ys.length).map f := by
  apply List.ext_getElem
  · simp [mixL]
  · intro i h1 h2
    simp [mixL] at h1 ⊢
    omega
theorem mixL_get (f : Nat → Int) (ys : List Int) (k : Nat) (hk : k < ys.length) : (mixL f ys k)[k]?.getD 0 = ys[k]?.getD 0 := by
  simp [mixL, hk]
theorem mixL_set (f : Nat → Int) (ys : List Int) (k : Nat) : (mixL f ys k).set k (f k) = mixL f ys (k + 1) := by
  apply List.ext_getElem
  · simp [mixL]
  · intro i h1 h2
    rw [List.getElem_set]
    simp [mixL] at h1 ⊢
    by_cases h : k = i
    · subst h
      simp
    · rw [if_neg h]
      by_cases h3 : i < k
      · rw [if_pos h3, if_pos (by omega)]
      · rw [if_neg h3, if_neg (by omega)]
theorem map_range_get (ys : List Int) (f : Int → Int) : ((List.range ys.length).map fun j => f (ys[j]?.getD 0)) = ys.map f := by
  apply List.ext_getElem
  · simp
  · intro i h1 h2
    have : i < ys.length := by simpa using h2
    simp [this]
/-- A tensor of the call's own, in a variable of its own: it may be rewritten in place. -/
theorem fill_start {w : World} {m c d : Nat} {a b : Option Addr} {xs ys : List Int} (hO : w.ownsRow m 2 1 (.slice b ys.length d) ys.length (ys.map (Value.int .i64))) (h1 : 1 ≤ ys.length) (t : TypeId) :
    ∃ g, b = some ⟨g, 0, none⟩ ∧ m ≤ g ∧ w.heap.size ≠ g ∧ Fill (w.alloc (.cells #[.slice a xs.length c, .slice b ys.length d] t)) (w.alloc (.cells #[.slice a xs.length c, .slice b ys.length d] t)) m w.heap.size g d ys.length (.slice a xs.length c) (.slice b ys.length d) ys := by
  obtain ⟨aa, cc, he, hh⟩ := own_shape hO
  rcases hh with hh | ⟨g, hg, h2, h3⟩
  · omega
  · cases he
    subst hg
    exact ⟨g, rfl, h2, by omega, Nat.le_refl _, Below.refl _ _, hO.alloc _, box2_new _ _ _ _⟩
theorem make_words (n : Nat) (hn : n ≤ 17592186044416) (w : World) : (Instr.makeSlice 24 (.int .i64 (n : Int)) (.int .i64 (n : Int))).run Tryz.prog w = .ok (.slice (some ⟨w.heap.size, 0, none⟩) n n) (w.alloc (.cells (madeCells #[Value.int .i64 0] n) 2)) := by
  obtain ⟨i, hi, hz0, hz1, hz2⟩ := info_parts infoI64
  have hr := run_make (P := Tryz.prog) w 24 2 i (.int .i64 0) Tryz.underlying24 hi hz0 .i64 .i64 n n (by omega) (Int.le_refl _) (by rw [hz2]; omega) (by omega)
  simp only [Int.toNat_natCast, hz1, Nat.mul_one, Value.cells] at hr
  exact hr

end Go.Proofs.YtimjhjacinchjaaGreat
