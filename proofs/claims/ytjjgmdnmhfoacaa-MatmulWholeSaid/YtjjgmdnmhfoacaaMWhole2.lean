/- Contracts for the statement MatmulWhole, and two tensors of the call's own that are being filled. -/
import Derived.Test.YtjjgmdnmhfoacaaMWhole1
import Derived.Test.YtjjgmdnmhfoacaaMArg2
import Derived.Deep.Onto
set_option linter.unusedVariables false
set_option linter.unusedSimpArgs false
namespace Go.Proofs.Ytjjgmdnmhfoacaa
open Go.RowKit Go.Rt

/-- A tensor handed back, its shape in a block of the call's own. -/
def RetTF (w : World) (xs ys : List Int) (e : Ending) (w' : World) : Prop :=
  ∃ a c b d mid, e = .returned (.agg #[.slice a xs.length c, .slice b ys.length d]) ∧ w.heap.size ≤ mid ∧ mid ≤ w'.heap.size ∧ Ints .i64 w' mid a xs ∧ (xs.length ≤ c ∧ c ≤ 9223372036854775807) ∧
    w'.ownsRow mid 2 1 (.slice b ys.length d) ys.length (ys.map (Value.int .i64)) ∧ Below w.heap.size w w' ∧ (xs.length = 0 ∨ ∃ g, a = some ⟨g, 0, none⟩ ∧ w.heap.size ≤ g)

set_option maxHeartbeats 1000000 in
theorem copyTensorF_any (a b : Option Addr) (c d : Nat) (xs ys : List Int) (w : World) (h : Ten w w.heap.size a c b d xs ys) (hx : xs.length ≤ 17592186044415) (hy : ys.length ≤ 17592186044415) :
    Calls Try.prog 18 #[.agg #[.slice a xs.length c, .slice b ys.length d]] w (RetTF w xs ys) := by
  have h1 := fun w' (hb : Below w.heap.size w w') => Lib.hid (copyNumbers_any a c xs w' ((h.sh.below hb (Nat.le_refl _)).mono hb.size) hx)
  have h2 := fun w' (hb : Below w.heap.size w w') => Lib.hid (copyWords_any b d ys w' ((h.da.below hb (Nat.le_refl _)).mono hb.size) hy)
  have hwf := h.sh.wf
  clear h
  go_enter Try.func18, Try.ntmps18
  go_wp2_with (first | (go_at_call 30; refine (h1 _ (by (repeat' (first | exact Below.refl _ _ | refine below_drewN ?_ _ | refine Below.drew ?_ | refine Below.setCell ?_ (by first | omega | (simp <;> omega)) _ | refine Below.alloc ?_ (by first | omega | (simp <;> omega)) _)))).out.mono ?_; rintro e w1 ⟨v, rfl, hown, hb⟩; have HB1 := Lib.hid hb; have hs1 := hb.size; (try simp at hs1); have Xt1_1 := Box2.below (b := w.heap.size) (v0 := .slice a xs.length c) (v1 := .slice b ys.length d) (by constructor <;> go_simp) hb (by first | omega | (simp <;> omega)); obtain ⟨c0t1_1, c1t1_1, f0t1_1, f1t1_1⟩ := Xt1_1; have Lt1_1 : w.heap.size < w1.heap.size := (by omega); have Xt2_1 := Box2.below (b := w.heap.size + 1) (v0 := .slice none 0 0) (v1 := .slice none 0 0) (by constructor <;> go_simp) hb (by first | omega | (simp <;> omega)); obtain ⟨c0t2_1, c1t2_1, f0t2_1, f1t2_1⟩ := Xt2_1; have Lt2_1 : w.heap.size + 1 < w1.heap.size := (by omega); have Xt3_1 := Box2.below (b := w.heap.size + 1 + 1) (v0 := .slice a xs.length c) (v1 := .slice b ys.length d) (by constructor <;> go_simp) hb (by first | omega | (simp <;> omega)); obtain ⟨c0t3_1, c1t3_1, f0t3_1, f1t3_1⟩ := Xt3_1; have Lt3_1 : w.heap.size + 1 + 1 < w1.heap.size := (by omega); have HO1 := Lib.hid hown; obtain ⟨a1, c1, rfl, hsh⟩ := own_shape hown; have HSH := Lib.hid hsh; clear hb hown hsh) | (go_at_call 34; refine (h2 _ (Below.trans (by (repeat' (first | exact Below.refl _ _ | refine below_drewN ?_ _ | refine Below.drew ?_ | refine Below.setCell ?_ (by first | omega | (simp <;> omega)) _ | refine Below.alloc ?_ (by first | omega | (simp <;> omega)) _))) (Below.trans (HB1.out.mono (by first | omega | (simp <;> omega))) (by (repeat' (first | exact Below.refl _ _ | refine below_drewN ?_ _ | refine Below.drew ?_ | refine Below.setCell ?_ (by first | omega | (simp <;> omega)) _ | refine Below.alloc ?_ (by first | omega | (simp <;> omega)) _)))))).out.mono ?_; rintro e w2 ⟨v, rfl, hown, hb⟩; have HB2 := Lib.hid hb; have hs2 := hb.size; (try simp at hs2); have Xt1_2 := Box2.below (b := w.heap.size) (v0 := .slice a xs.length c) (v1 := .slice b ys.length d) (by constructor <;> go_simp) hb (by first | omega | (simp <;> omega)); obtain ⟨c0t1_2, c1t1_2, f0t1_2, f1t1_2⟩ := Xt1_2; have Lt1_2 : w.heap.size < w2.heap.size := (by omega); have Xt2_2 := Box2.below (b := w.heap.size + 1) (v0 := .slice none 0 0) (v1 := .slice none 0 0) (by constructor <;> go_simp) hb (by first | omega | (simp <;> omega)); obtain ⟨c0t2_2, c1t2_2, f0t2_2, f1t2_2⟩ := Xt2_2; have Lt2_2 : w.heap.size + 1 < w2.heap.size := (by omega); have Xt3_2 := Box2.below (b := w.heap.size + 1 + 1) (v0 := .slice a1 xs.length c1) (v1 := .slice b ys.length d) (by constructor <;> go_simp) hb (by first | omega | (simp <;> omega)); obtain ⟨c0t3_2, c1t3_2, f0t3_2, f1t3_2⟩ := Xt3_2; have Lt3_2 : w.heap.size + 1 + 1 < w2.heap.size := (by omega); have HO2 := Lib.hid hown; obtain ⟨a2, c2, rfl, _⟩ := own_shape hown; clear hb hown))
  (try simp only [Exit.noGoto, Exit.inBlock, Exit.then])
  have hw1 : w.heap.size + 1 + 1 < w1.heap.size := by omega
  have hz0 : ∀ (q o : Nat) (v : Value), (w1.setCell ⟨q, o, none⟩ v).heap.size = w1.heap.size := fun _ _ _ => by simp [World.setCell]
  refine bodyPost_ret (v := .agg #[.slice a1 xs.length c1, .slice a2 ys.length c2]) (by rw [results_c1 rfl]; go_simp) rfl ⟨a1, c1, a2, c2, w1.heap.size, rfl, by omega, ?_, ?_, own_cap HO1.out, ?_, ?_, HSH.out.imp id (by rintro ⟨g, hg, hb, _⟩; exact ⟨g, hg, by simp at hb; omega⟩)⟩
  · simp [World.setCell]
    omega
  · obtain ⟨aa, cc, he, hI⟩ := own_ints HO1.out hwf
    cases he
    have hne : xs.length = 0 ∨ ∃ g, a1 = some ⟨g, 0, none⟩ ∧ w.heap.size + 1 + 1 < g := HSH.out.imp id (by rintro ⟨g, hg, hb, _⟩; exact ⟨g, hg, by simp at hb; omega⟩)
    have hne2 : xs.length = 0 ∨ ∃ g, a1 = some ⟨g, 0, none⟩ ∧ w.heap.size + 1 < g := hne.imp id (fun ⟨g, hg, hb⟩ => ⟨g, hg, by omega⟩)
    refine ints_setCell (ints_setCell (ints_setCell ?_ hne) hne2) hne2
    exact (ints_setCell hI hne).below HB2.out (by rw [hz0]; exact Nat.le_refl _)
  · have h := HO2.out
    rw [hz0] at h
    have hw2 : w.heap.size + 1 < w1.heap.size := by omega
    exact ownsRow_setCell_below (ownsRow_setCell_below (ownsRow_setCell_below h hw1 _) hw2 _) hw2 _
  · have h2 := HB2.out
    rw [hz0] at h2
    iterate 3 refine Below.setCell ?_ (by first | omega | (simp <;> omega)) _
    exact Below.trans (by (repeat' (first | exact Below.refl _ _ | refine below_drewN ?_ _ | refine Below.drew ?_ | refine Below.setCell ?_ (by first | omega | (simp <;> omega)) _ | refine Below.alloc ?_ (by first | omega | (simp <;> omega)) _))) (Below.trans (HB1.out.mono (by first | omega | (simp <;> omega))) (Below.trans ((Below.refl _ _).setCell (by simp; omega) _) (h2.mono (by omega))))


theorem ints_setNe {k : IntKind} {w : World} {hi : Nat} {a : Option Addr} {xs : List Int} {q o : Nat} {v : Value} (h : Ints k w hi a xs) (hne : xs.length = 0 ∨ ∃ g, a = some ⟨g, 0, none⟩ ∧ g ≠ q) : Ints k (w.setCell ⟨q, o, none⟩ v) hi a xs :=
  ⟨h.len, h.wf, fun i hi' => by
    obtain ⟨b, off, ha, hlt, hc⟩ := h.cell i hi'
    refine ⟨b, off, ha, hlt, ?_⟩
    rcases hne with h0 | ⟨g, hg, hq⟩
    · omega
    · rw [ha] at hg
      cases hg
      rw [← hc]
      have hn : ¬ b = q := hq
      go_simp⟩

/-- Two tensors of the call's own that are being filled: headers in blocks Q and Q', words in g and g'; the second one's shape at a. Below mid nothing has turned since W. -/
structure Fill2 (W wr : World) (mid Q g d Q' g' d' N : Nat) (v0 v1 u0 u1 : Value) (a : Option Addr) (S xs ys : List Int) : Prop where
  sz : W.heap.size ≤ wr.heap.size
  bel : Below mid W wr
  rowd : wr.ownsRow mid 2 1 (.slice (some ⟨g, 0, none⟩) N d) N (xs.map (Value.int .i64))
  rows : wr.ownsRow mid 2 1 (.slice (some ⟨g', 0, none⟩) N d') N (ys.map (Value.int .i64))
  boxd : Box2 wr Q v0 v1
  boxs : Box2 wr Q' u0 u1
  sh : Ints .i64 wr wr.heap.size a S
  hs : S.length = 0 ∨ ∃ h, a = some ⟨h, 0, none⟩ ∧ h ≠ g ∧ h ≠ g'
  ne : Q ≠ g ∧ Q ≠ g' ∧ Q' ≠ g ∧ Q' ≠ g' ∧ g ≠ g'
section
variable {W wr w' : World} {mid Q g d Q' g' d' N : Nat} {v0 v1 u0 u1 : Value} {a : Option Addr} {S xs ys : List Int}
theorem Fill2.ltd (h : Fill2 W wr mid Q g d Q' g' d' N v0 v1 u0 u1 a S xs ys) : mid ≤ g ∧ g < wr.heap.size := h.rowd.lt g rfl
theorem Fill2.lts (h : Fill2 W wr mid Q g d Q' g' d' N v0 v1 u0 u1 a S xs ys) : mid ≤ g' ∧ g' < wr.heap.size := h.rows.lt g' rfl
theorem Fill2.next (h : Fill2 W wr mid Q g d Q' g' d' N v0 v1 u0 u1 a S xs ys) (hb : Below wr.heap.size wr w') : Fill2 W w' mid Q g d Q' g' d' N v0 v1 u0 u1 a S xs ys :=
  ⟨Nat.le_trans h.sz hb.size, h.bel.trans (hb.mono (Nat.le_of_lt (Nat.lt_of_le_of_lt h.ltd.1 h.ltd.2))), own_below h.rowd hb (Nat.le_refl _), own_below h.rows hb (Nat.le_refl _),
   h.boxd.below hb (World.block_lt_of_cell? wr _ h.boxd.c0), h.boxs.below hb (World.block_lt_of_cell? wr _ h.boxs.c0), (h.sh.below hb (Nat.le_refl _)).mono hb.size, h.hs, h.ne⟩
theorem Fill2.setd (h : Fill2 W wr mid Q g d Q' g' d' N v0 v1 u0 u1 a S xs ys) (j : Nat) (x : Int) : Fill2 W (wr.setCell ⟨g, j, none⟩ (.int .i64 x)) mid Q g d Q' g' d' N v0 v1 u0 u1 a S (xs.set j x) ys := by
  obtain ⟨n1, n2, n3, n4, n5⟩ := h.ne
  have st := h.rowd.stored j (.int .i64 x)
  refine ⟨by simpa using h.sz, h.bel.setCell h.ltd.1 _, ?_, h.rows.kept st.2 (.inr (by intro e; cases e; exact n5 rfl)), ?_, ?_, ?_, h.hs, h.ne⟩
  · have := st.1
    rwa [map_set] at this
  · obtain ⟨c0, c1, f0, f1⟩ := h.boxd
    constructor <;> go_simp
  · obtain ⟨c0, c1, f0, f1⟩ := h.boxs
    constructor <;> go_simp
  · have := ints_setNe (q := g) (o := j) (v := .int .i64 x) h.sh (h.hs.imp id (fun ⟨q, e, e1, _⟩ => ⟨q, e, e1⟩))
    simpa using this
theorem Fill2.sets (h : Fill2 W wr mid Q g d Q' g' d' N v0 v1 u0 u1 a S xs ys) (j : Nat) (x : Int) : Fill2 W (wr.setCell ⟨g', j, none⟩ (.int .i64 x)) mid Q g d Q' g' d' N v0 v1 u0 u1 a S xs (ys.set j x) := by
  obtain ⟨n1, n2, n3, n4, n5⟩ := h.ne
  have st := h.rows.stored j (.int .i64 x)
  refine ⟨by simpa using h.sz, h.bel.setCell h.lts.1 _, h.rowd.kept st.2 (.inr (by intro e; cases e; exact n5 rfl)), ?_, ?_, ?_, ?_, h.hs, h.ne⟩
  · have := st.1
    rwa [map_set] at this
  · obtain ⟨c0, c1, f0, f1⟩ := h.boxd
    constructor <;> go_simp
  · obtain ⟨c0, c1, f0, f1⟩ := h.boxs
    constructor <;> go_simp
  · have := ints_setNe (q := g') (o := j) (v := .int .i64 x) h.sh (h.hs.imp id (fun ⟨q, e, _, e2⟩ => ⟨q, e, e2⟩))
    simpa using this
theorem Fill2.celld (h : Fill2 W wr mid Q g d Q' g' d' N v0 v1 u0 u1 a S xs ys) (j : Nat) (hj : j < N) : wr.cell? ⟨g, j, none⟩ = some (.int .i64 (xs[j]?.getD 0)) ∧ wr.frozen? ⟨g, j, none⟩ = false :=
  ⟨own_cell h.rowd hj, h.rowd.frozenAt j⟩
theorem Fill2.cells (h : Fill2 W wr mid Q g d Q' g' d' N v0 v1 u0 u1 a S xs ys) (j : Nat) (hj : j < N) : wr.cell? ⟨g', j, none⟩ = some (.int .i64 (ys[j]?.getD 0)) ∧ wr.frozen? ⟨g', j, none⟩ = false :=
  ⟨own_cell h.rows hj, h.rows.frozenAt j⟩
end


theorem ten_row {W' : World} {mid : Nat} {a b : Option Addr} {c d : Nat} {xs ys : List Int} (hI : Ints .i64 W' W'.heap.size a xs) (hc : xs.length ≤ c ∧ c ≤ 9223372036854775807)
    (hO : W'.ownsRow mid 2 1 (.slice b ys.length d) ys.length (ys.map (Value.int .i64))) (hw : ∀ y ∈ ys, isW y = true) : Ten W' W'.heap.size a c b d xs ys := by
  obtain ⟨a2, c2, he, hI2⟩ := own_ints hO (fun y hy => word_wf (hw y hy))
  cases he
  obtain ⟨k1, k2⟩ := own_cap hO
  exact ⟨hI, hI2, hc.1, hc.2, k1, k2⟩

theorem fill2_start {w1 w2 : World} {m1 m2 c1 c2 d1 d2 : Nat} {a1 b1 a2 b2 : Option Addr} {S ys : List Int} {t : TypeId} (h1 : 1 ≤ ys.length)
    (hO1 : w1.ownsRow m1 2 1 (.slice b1 ys.length d1) ys.length (ys.map (Value.int .i64))) {V : World} (hV : w1.alloc (.cells #[.slice a1 S.length c1, .slice b1 ys.length d1] t) = V)
    (hb : Below V.heap.size V w2) (hm2 : V.heap.size ≤ m2) (hm2' : m2 ≤ w2.heap.size) (hI2 : Ints .i64 w2 m2 a2 S) (hO2 : w2.ownsRow m2 2 1 (.slice b2 ys.length d2) ys.length (ys.map (Value.int .i64)))
    (hsh : S.length = 0 ∨ ∃ g, a2 = some ⟨g, 0, none⟩ ∧ V.heap.size ≤ g) {V2 : World} (hV2 : w2.alloc (.cells #[.slice a2 S.length c2, .slice b2 ys.length d2] t) = V2) :
    ∃ g1 g2, b1 = some ⟨g1, 0, none⟩ ∧ b2 = some ⟨g2, 0, none⟩ ∧ m1 ≤ w1.heap.size ∧
      Fill2 V2 V2 m1 w1.heap.size g1 d1 w2.heap.size g2 d2 ys.length (.slice a1 S.length c1) (.slice b1 ys.length d1) (.slice a2 S.length c2) (.slice b2 ys.length d2) a2 S ys ys := by
  obtain ⟨aa, cc, he, hh⟩ := own_shape hO1
  cases he
  obtain ⟨aa', cc', he', hh'⟩ := own_shape hO2
  cases he'
  rcases hh with hh | ⟨g1, rfl, p1, p2⟩
  · omega
  rcases hh' with hh' | ⟨g2, rfl, q1, q2⟩
  · omega
  have sV : V.heap.size = w1.heap.size + 1 := by rw [← hV]; simp
  have sV2 : V2.heap.size = w2.heap.size + 1 := by rw [← hV2]; simp
  have b12 : Below w2.heap.size w2 V2 := by rw [← hV2]; exact (Below.refl _ _).alloc (Nat.le_refl _) _
  have bs := hb.size
  have B1 : Box2 V w1.heap.size (.slice a1 S.length c1) (.slice (some ⟨g1, 0, none⟩) ys.length d1) := by rw [← hV]; exact box2_new _ _ _ _
  have B2 : Box2 V2 w2.heap.size (.slice a2 S.length c2) (.slice (some ⟨g2, 0, none⟩) ys.length d2) := by rw [← hV2]; exact box2_new _ _ _ _
  have r1 : V.ownsRow m1 2 1 (.slice (some ⟨g1, 0, none⟩) ys.length d1) ys.length (ys.map (Value.int .i64)) := by rw [← hV]; exact hO1.alloc _
  refine ⟨g1, g2, rfl, rfl, by omega, Nat.le_refl _, Below.refl _ _, own_below (own_below r1 hb (Nat.le_refl _)) b12 (Nat.le_refl _), own_below (hO2.mono (by omega)) b12 (Nat.le_refl _), (B1.below hb (by omega)).below b12 (by omega), B2, ((hI2.below b12 hm2').mono (by omega)), ?_, by omega⟩
  by_cases h0 : S.length = 0
  · exact .inl h0
  · refine .inr ?_
    rcases hsh with h | ⟨h, rfl, hh⟩
    · exact absurd h h0
    · obtain ⟨bb, off, e, lt, _⟩ := hI2.cell 0 (by omega)
      cases e
      exact ⟨h, rfl, by omega, by omega⟩

/-! What the statement calls, by whole numbers -/
/-- A call of one tensor. -/
abbrev T1 (f : Nat) (X Y : List Int) (R : World → Ending → World → Prop) : Prop :=
  ∀ a b c d W, Ten W W.heap.size a c b d X Y → Calls Try.prog f #[.agg #[.slice a X.length c, .slice b Y.length d]] W (R W)
/-- A product of two tensors at 8 bits. -/
abbrev T2 (X Y X' Y' XZ YZ : List Int) : Prop :=
  ∀ a b c d a2 b2 c2 d2 W, Ten W W.heap.size a c b d X Y → Ten W W.heap.size a2 c2 b2 d2 X' Y' → Calls Try.prog 10 #[.agg #[.slice a X.length c, .slice b Y.length d], .agg #[.slice a2 X'.length c2, .slice b2 Y'.length d2], .int .i64 8] W (RetTen W XZ YZ 0)
theorem mulUp_any {R I C : Nat} {X xs Y ys : List Int} {m1 m2 : Int} (hX : X = [(R : Int), (I : Int)]) (hY : Y = [(I : Int), (C : Int)]) (ha : 0 ≤ m1) (hb : 0 ≤ m2) (hx : Bd m1 xs) (hy : Bd m2 ys) (hab : 40 * (m1 * m2) ≤ 100000000)
    (m1' : m1 ≤ 100000000) (m2' : m2 ≤ 100000000) (lx : xs.length = R * I) (ly : ys.length = I * C) (hR : 1 ≤ R ∧ R ≤ 40) (hI : 1 ≤ I ∧ I ≤ 40) (hC : 1 ≤ C ∧ C ≤ 40) : T2 X (up8 xs) Y (up8 ys) [(R : Int), (C : Int)] (up8 (pL xs ys R I C)) := by
  intro a b c d a2 b2 c2 d2 W h1 h2
  have t1 : tenB X (up8 xs) = true := by rw [hX]; exact up8_ten hR hI lx hx m1'
  have t2 : tenB Y (up8 ys) = true := by rw [hY]; exact up8_ten hI hC ly hy m2'
  have h := matMul_any a b a2 b2 c d c2 d2 8 X (up8 xs) Y (up8 ys) W h1 h2 t1 t2 (by decide) (by decide)
  obtain ⟨e1, e2, e3⟩ := mul_up8 ha hb hx hy hab hR hI hC
  rw [← hX, ← hY] at e1 e2 e3
  rw [e1, e2, e3] at h
  exact h

structure WholeF (xsA ysA xsB ysB X1 Y1 UA UB UC XP UP XL UL XR UR : List Int) : Prop where
  wA : T1 20 xsA ysA (fun W => RetT W xsA UA)
  wB : T1 20 xsB ysB (fun W => RetT W xsB UB)
  tB : T1 16 xsB ysB (fun W => RetTen W X1 Y1 0)
  wT : T1 20 X1 Y1 (fun W => RetT W X1 UC)
  mP : T2 xsA UA xsB UB XP UP
  mL : T2 XP UP X1 UC XL UL
  mB : T2 xsB UB X1 UC XR UR
  mR : T2 xsA UA XR UR XL UL
  lB : UB.length = ysB.length
  iY1 : ∀ y ∈ Y1, isW y = true
  iA : ∀ y ∈ UA, isW y = true
  iB : ∀ y ∈ UB, isW y = true
  iC : ∀ y ∈ UC, isW y = true
  iP : ∀ y ∈ UP, isW y = true
  iL : ∀ y ∈ UL, isW y = true
  iR : ∀ y ∈ UR, isW y = true
  bB : ∀ j : Nat, -512 ≤ UB[j]?.getD 0 ∧ UB[j]?.getD 0 ≤ 512

/-- The words that are added, and the sums. -/
def dUp (i n : Nat) : List Int := (List.range n).map fun (j : Nat) => 256 * (Int.tmod ((j : Int) * 7 + (i : Int)) 5 - 2)
def sUp (UB : List Int) (i n : Nat) : List Int := (List.range n).map fun (j : Nat) => UB[j]?.getD 0 + 256 * (Int.tmod ((j : Int) * 7 + (i : Int)) 5 - 2)
theorem tmod_nat (j i : Nat) : Int.tmod ((j : Int) * 7 + (i : Int)) 5 = ((j : Int) * 7 + (i : Int)) % 5 := Int.tmod_eq_emod_of_nonneg (by omega)
theorem dUp_eq (i n : Nat) : dUp i n = up8 (dWords i n) := by
  unfold dUp dWords up8
  rw [List.map_map]
  apply List.map_congr_left
  intro j _
  show _ = (((j : Int) * 7 + (i : Int)) % 5 - 2) * 256
  rw [tmod_nat, Int.mul_comm]
theorem sUp_eq (b3 : List Int) (i : Nat) : sUp (up8 b3) i b3.length = up8 (addL b3 (dWords i b3.length)) := by
  unfold sUp addL
  rw [show up8 ((List.range b3.length).map fun k => b3[k]?.getD 0 + (dWords i b3.length)[k]?.getD 0) = (List.range b3.length).map (fun k => (b3[k]?.getD 0 + (dWords i b3.length)[k]?.getD 0) * 256) by unfold up8; rw [List.map_map]; rfl]
  apply List.map_congr_left
  intro j hj
  have hj' : j < b3.length := by simpa using hj
  have e : (dWords i b3.length)[j]?.getD 0 = ((j : Int) * 7 + (i : Int)) % 5 - 2 := by
    unfold dWords
    rw [List.getElem?_map, List.getElem?_range hj']
    rfl
  rw [up8_get, tmod_nat, e, Int.add_mul, Int.mul_comm 256]

theorem whole_facts {xsA ysA xsB ysB : List Int} {R m C : Nat} (hxA : xsA = [(R : Int), (m : Int)]) (hxB : xsB = [(m : Int), (C : Int)]) (tA : tenB xsA ysA = true) (tB : tenB xsB ysB = true) (l1 : ysA.length ≤ 40) (l2 : ysB.length ≤ 40) :
    ∃ X1 Y1 UA UB UC XP UP XL UL XR UR, WholeF xsA ysA xsB ysB X1 Y1 UA UB UC XP UP XL UL XR UR ∧
      ∀ i : Nat, ∃ UX UY, T2 xsA UA xsB (sUp UB i ysB.length) XP UX ∧ T2 xsA UA xsB (dUp i ysB.length) XP UY ∧ (∀ y ∈ sUp UB i ysB.length, isW y = true) ∧ (∀ y ∈ dUp i ysB.length, isW y = true) ∧ (∀ y ∈ UX, isW y = true) ∧ (∀ y ∈ UY, isW y = true) ∧
        UX.length = UP.length ∧ UY.length = UP.length ∧ ∀ j, j < UP.length → UX[j]?.getD 0 = UY[j]?.getD 0 + UP[j]?.getD 0 := by
  have gA := ten2_iff.1 (by rw [← hxA]; exact tA : tenB [(R : Int), (m : Int)] ysA = true)
  have gB := ten2_iff.1 (by rw [← hxB]; exact tB : tenB [(m : Int), (C : Int)] ysB = true)
  obtain ⟨⟨⟨hR1, _⟩, ⟨hm1, _⟩, _⟩, lA, wA⟩ := gA
  obtain ⟨⟨_, ⟨hC1, _⟩, _⟩, lB, wB⟩ := gB
  have hR40 : R ≤ 40 := by have := Nat.le_mul_of_pos_right R hm1; omega
  have hm40 : m ≤ 40 := by have := Nat.le_mul_of_pos_left m hR1; omega
  have hC40 : C ≤ 40 := by have := Nat.le_mul_of_pos_left C hm1; omega
  have pA : 1 ≤ ysA.length := by rw [lA]; exact Nat.mul_le_mul hR1 hm1
  have pB : 1 ≤ ysB.length := by rw [lB]; exact Nat.mul_le_mul hm1 hC1
  have h2 : 2 ≤ xsB.length := by rw [hxB]; exact Nat.le_refl 2
  have x8 : xsA.length ≤ 8 := by rw [hxA]; show 2 ≤ 8; omega
  have x8' : xsB.length ≤ 8 := by rw [hxB]; show 2 ≤ 8; omega
  have tT := turn_ten tB h2
  have hX1 : swapL xsB = [(C : Int), (m : Int)] := by rw [hxB, swap2]
  have lY : (turnL xsB ysB).length = ysB.length := by simp [turnL]
  have wY := (tenB_iff.1 tT).2.2
  have x81 : (swapL xsB).length ≤ 8 := by rw [hX1]; show 2 ≤ 8; omega
  have kR : 1 ≤ R ∧ R ≤ 40 := ⟨hR1, hR40⟩
  have km : 1 ≤ m ∧ m ≤ 40 := ⟨hm1, hm40⟩
  have kC : 1 ≤ C ∧ C ≤ 40 := ⟨hC1, hC40⟩
  have dA : Bd 2 (rest3 ysA) := rest3_bd _
  have dB : Bd 2 (rest3 ysB) := rest3_bd _
  have dC : Bd 2 (rest3 (turnL xsB ysB)) := rest3_bd _
  have mA : (rest3 ysA).length = R * m := by rw [rest3_len, lA]
  have mB : (rest3 ysB).length = m * C := by rw [rest3_len, lB]
  have mC : (rest3 (turnL xsB ysB)).length = C * m := by rw [rest3_len, lY, lB, Nat.mul_comm]
  have dP := pL_bd (R := R) (I := m) (C := C) (by decide) (by decide) dA dB hm40
  have dR := pL_bd (R := m) (I := C) (C := m) (by decide) (by decide) dB dC hC40
  have dL := pL_bd (R := R) (I := C) (C := m) (by decide) (by decide) dP dC hC40
  refine ⟨swapL xsB, turnL xsB ysB, up8 (rest3 ysA), up8 (rest3 ysB), up8 (rest3 (turnL xsB ysB)), [(R : Int), (C : Int)], up8 (pL (rest3 ysA) (rest3 ysB) R m C), [(R : Int), (m : Int)], up8 (pL (pL (rest3 ysA) (rest3 ysB) R m C) (rest3 (turnL xsB ysB)) R C m), [(m : Int), (m : Int)], up8 (pL (rest3 ysB) (rest3 (turnL xsB ysB)) m C m), ?_, ?_⟩
  · refine ⟨fun a b c d W h => whole_any a b c d xsA ysA W h x8 l1 pA wA, fun a b c d W h => whole_any a b c d xsB ysB W h x8' l2 pB wB, fun a b c d W h => turn_any a b c d xsB ysB W h tB h2,
      fun a b c d W h => whole_any a b c d _ _ W h x81 (by omega) (by omega) wY, mulUp_any hxA hxB (by decide) (by decide) dA dB (by decide) (by decide) (by decide) mA mB kR km kC,
      mulUp_any rfl hX1 (by decide) (by decide) dP dC (by decide) (by decide) (by decide) (pL_len _ _ _ _ _) mC kR kC km,
      mulUp_any hxB hX1 (by decide) (by decide) dB dC (by decide) (by decide) (by decide) mB mC km kC km, ?_, by rw [up8_len, rest3_len], wY, up8_isW dA (by decide), up8_isW dB (by decide), up8_isW dC (by decide), up8_isW dP (by decide), up8_isW dL (by decide), up8_isW dR (by decide), ?_⟩
    · rw [pL_assoc _ _ _ _ _ _ _ hm1]
      exact mulUp_any hxA rfl (by decide) (by decide) dA dR (by decide) (by decide) (by decide) mA (pL_len _ _ _ _ _) kR km km
    · intro j
      rw [up8_get]
      have := dB.getD (by decide) j
      omega
  · intro i
    have dD := dWords_bd i (rest3 ysB).length
    have dS := addL_bd (by decide) (by decide) dB dD
    have eS := sUp_eq (rest3 ysB) i
    have eD := dUp_eq i (rest3 ysB).length
    rw [rest3_len] at eS eD dD dS
    rw [eS, eD]
    have lD : (dWords i ysB.length).length = m * C := by rw [dWords_len, lB]
    have lS : (addL (rest3 ysB) (dWords i ysB.length)).length = m * C := by rw [addL_len, mB]
    have dX := pL_bd (R := R) (I := m) (C := C) (by decide) (by decide) dA dS hm40
    have dY := pL_bd (R := R) (I := m) (C := C) (by decide) (by decide) dA dD hm40
    refine ⟨up8 (pL (rest3 ysA) (addL (rest3 ysB) (dWords i ysB.length)) R m C), up8 (pL (rest3 ysA) (dWords i ysB.length) R m C), mulUp_any hxA hxB (by decide) (by decide) dA dS (by decide) (by decide) (by decide) mA lS kR km kC,
      mulUp_any hxA hxB (by decide) (by decide) dA dD (by decide) (by decide) (by decide) mA lD kR km kC, up8_isW dS (by decide), up8_isW dD (by decide), up8_isW dX (by decide), up8_isW dY (by decide), by rw [up8_len, up8_len, pL_len, pL_len], by rw [up8_len, up8_len, pL_len, pL_len], ?_⟩
    intro j hj
    rw [up8_len, pL_len] at hj
    exact pL_addL _ _ _ R m C (by rw [mB, lD]) j hj

theorem held6 {V W W2 : World} {a1 a2 a3 a4 a5 a6 : Addr} {v1 v2 v3 v4 v5 v6 : Value} (h : Below V.heap.size V W ∧ W.cell? a1 = some v1 ∧ W.cell? a2 = some v2 ∧ W.cell? a3 = some v3 ∧ W.cell? a4 = some v4 ∧ W.cell? a5 = some v5 ∧ W.cell? a6 = some v6) (hb : Below W.heap.size W W2) : Below V.heap.size V W2 ∧ W2.cell? a1 = some v1 ∧ W2.cell? a2 = some v2 ∧ W2.cell? a3 = some v3 ∧ W2.cell? a4 = some v4 ∧ W2.cell? a5 = some v5 ∧ W2.cell? a6 = some v6 := by
  obtain ⟨h0, h1, h2, h3, h4, h5, h6⟩ := h
  exact ⟨h0.trans (hb.mono h0.size), (hb.cell (World.block_lt_of_cell? W _ h1)).trans h1, (hb.cell (World.block_lt_of_cell? W _ h2)).trans h2, (hb.cell (World.block_lt_of_cell? W _ h3)).trans h3, (hb.cell (World.block_lt_of_cell? W _ h4)).trans h4, (hb.cell (World.block_lt_of_cell? W _ h5)).trans h5, (hb.cell (World.block_lt_of_cell? W _ h6)).trans h6⟩
end Go.Proofs.Ytjjgmdnmhfoacaa
