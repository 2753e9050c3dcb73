/- What a statement's walk over tensors carries from call to call. -/
import Derived.Test.YtddhhfhammmaaaaGreatMTurn
import Derived.Test.YtddhhfhammmaaaaGreatMMul
import Derived.Test.YtddhhfhammmaaaaGreatMMulG
import Derived.Test.YtddhhfhammmaaaaGreatOpen
set_option linter.unusedVariables false
set_option linter.unusedSimpArgs false
namespace Go.Rt
open Go.RowKit Go.ChangeShapes Go.WideShapes Go.Deep
section
variable {H : Type} {enc : TypeId × Value → H} {P : Program} {w : World} {spare : Nat → Bool} {held : Bool}
theorem trod_ints_cap {t e : TypeId} {k : IntKind} {fuel : Nat} {v : Value} {x : DataW H × List MemPlace} (ht : P.underlying t = some (.slice e)) (he : P.underlying e = some (.int k)) (hc : P.cellsOf e = 1)
    (h : DataW.trod enc P w 0 spare held fuel t [v] = some x) : ∃ a xs c, v = .slice a xs.length c ∧ Ints k w w.heap.size a xs ∧ xs.length ≤ c ∧ c ≤ 9223372036854775807 := by
  obtain ⟨a, xs, c, rfl, hI⟩ := trod_ints ht he hc h
  refine ⟨a, xs, c, rfl, hI, ?_⟩
  rcases open_ints ht he hc h with ⟨hcs, _⟩ | ⟨a, len, cap, zs, hcs, _, hl, hm, hz, _, hcell, hwf⟩
  · simp at hcs
    obtain ⟨_, h1, h2⟩ := hcs
    rw [h1, h2]
    simp
  · simp at hcs
    obtain ⟨_, h1, h2⟩ := hcs
    unfold maxLen at hm
    omega
end
end Go.Rt
namespace Go.Proofs.YtddhhfhammmaaaaGreat
open Go.ChangeShapes Go.WideShapes Go.RowKit Go.Rt

structure TenV where
  a : Option Addr
  c : Nat
  b : Option Addr
  d : Nat
  xs : List Int
  ys : List Int

/-- In W: the tensors T read, the cells C hold (and may be written); below B nothing has turned since w0. -/
structure TEnv (B : Nat) (w0 W : World) (T : List TenV) (C : List (Addr × Value)) : Prop where
  hB : B ≤ W.heap.size
  bel : Below B w0 W
  tens : ∀ p ∈ T, Ten W W.heap.size p.a p.c p.b p.d p.xs p.ys
  cells : ∀ p ∈ C, W.cell? p.1 = some p.2 ∧ p.1.block < W.heap.size

section
variable {B : Nat} {w0 W W' : World} {T : List TenV} {C : List (Addr × Value)}
theorem TEnv.next (h : TEnv B w0 W T C) (hb : Below W.heap.size W W') : TEnv B w0 W' T C :=
  ⟨Nat.le_trans h.hB hb.size, h.bel.trans (hb.mono h.hB), fun p hp => (h.tens p hp).next hb,
   fun p hp => ⟨(hb.cell (p := p.1) (h.cells p hp).2).trans (h.cells p hp).1, Nat.lt_of_lt_of_le (h.cells p hp).2 hb.size⟩⟩
theorem TEnv.drewN (h : TEnv B w0 W T C) (q : Nat) : TEnv B w0 (W.drewN q) T C := h.next (below_drewN (Below.refl _ _) q)
theorem TEnv.alloc (h : TEnv B w0 W T C) (o : Obj) : TEnv B w0 (W.alloc o) T C := h.next ((Below.refl _ _).alloc (Nat.le_refl _) _)
theorem TEnv.ten (h : TEnv B w0 W T C) {a b : Option Addr} {c d : Nat} {xs ys : List Int} (hp : (⟨a, c, b, d, xs, ys⟩ : TenV) ∈ T) : Ten W W.heap.size a c b d xs ys := h.tens _ hp
theorem TEnv.cell (h : TEnv B w0 W T C) {a : Addr} {v : Value} (hp : (a, v) ∈ C) : W.cell? a = some v := (h.cells _ hp).1
theorem TEnv.lt (h : TEnv B w0 W T C) {a : Addr} {v : Value} (hp : (a, v) ∈ C) : a.block < W.heap.size := (h.cells _ hp).2
theorem TEnv.addT (h : TEnv B w0 W T C) {a b : Option Addr} {c d : Nat} {xs ys : List Int} (ht : Ten W W.heap.size a c b d xs ys) : TEnv B w0 W (⟨a, c, b, d, xs, ys⟩ :: T) C :=
  ⟨h.hB, h.bel, fun p hp => by
    rcases List.mem_cons.1 hp with rfl | hp
    · exact ht
    · exact h.tens p hp, h.cells⟩
theorem TEnv.addC (h : TEnv B w0 W T C) {a : Addr} {v : Value} (hc : W.cell? a = some v) : TEnv B w0 W T ((a, v) :: C) :=
  ⟨h.hB, h.bel, h.tens, fun p hp => by
    rcases List.mem_cons.1 hp with rfl | hp
    · exact ⟨hc, World.block_lt_of_cell? W a hc⟩
    · exact h.cells p hp⟩
/-- A new variable of two cells. -/
theorem TEnv.box (h : TEnv B w0 W T C) (v0 v1 : Value) (t : TypeId) : TEnv B w0 (W.alloc (.cells #[v0, v1] t)) T ((⟨W.heap.size, 0, none⟩, v0) :: (⟨W.heap.size, 1, none⟩, v1) :: C) :=
  ((h.alloc _).addC (box2_new W v0 v1 t).c1).addC (box2_new W v0 v1 t).c0
theorem TEnv.start (W : World) : TEnv W.heap.size W W [] [] := ⟨Nat.le_refl _, Below.refl _ _, by simp, by simp⟩

theorem word_wf {x : Int} (h : isW x = true) : (Lit.int .i64 x).wf = true := by
  have := isW_iff.1 h
  exact wf_i64_iff.2 ⟨by omega, by omega⟩

theorem ten_made {mid : Nat} {a b : Option Addr} {c d : Nat} {xs ys : List Int} (hm : mid ≤ W'.heap.size) (hI : Ints .i64 W' mid a xs) (hc : xs.length ≤ c ∧ c ≤ 9223372036854775807)
    (hO : W'.ownsRow mid 2 1 (.slice b ys.length d) ys.length (ys.map (Value.int .i64))) (hw : ∀ y ∈ ys, isW y = true) : Ten W' W'.heap.size a c b d xs ys := by
  obtain ⟨a2, c2, he, hI2⟩ := own_ints hO (fun y hy => word_wf (hw y hy))
  cases he
  obtain ⟨k1, k2⟩ := own_cap hO
  exact ⟨hI.mono hm, hI2, hc.1, hc.2, k1, k2⟩
/-- A call that made a tensor. -/
theorem TEnv.made (h : TEnv B w0 W T C) {mid : Nat} {a b : Option Addr} {c d : Nat} {xs ys : List Int} (hb : Below W.heap.size W W') (hm : mid ≤ W'.heap.size) (hI : Ints .i64 W' mid a xs) (hc : xs.length ≤ c ∧ c ≤ 9223372036854775807)
    (hO : W'.ownsRow mid 2 1 (.slice b ys.length d) ys.length (ys.map (Value.int .i64))) (hw : ∀ y ∈ ys, isW y = true) : TEnv B w0 W' (⟨a, c, b, d, xs, ys⟩ :: T) C :=
  (h.next hb).addT (ten_made hm hI hc hO hw)
end

theorem matMul_any (a b a' b' : Option Addr) (c d c' d' f : Nat) (xsA ysA xsB ysB : List Int) (w : World) (hA : Ten w w.heap.size a c b d xsA ysA) (hB : Ten w w.heap.size a' c' b' d' xsB ysB)
    (tA : tenB xsA ysA = true) (tB : tenB xsB ysB = true) (f0 : 8 ≤ f) (f1 : f ≤ 32) :
    Calls Tryz.prog 10 #[.agg #[.slice a xsA.length c, .slice b ysA.length d], .agg #[.slice a' xsB.length c', .slice b' ysB.length d'], .int .i64 f] w (RetTen w (mulX xsA ysA xsB ysB f) (mulY xsA ysA xsB ysB f) (mulE xsA ysA xsB ysB f)) := by
  by_cases hz : outE xsA xsB = 0
  · exact mul_good a b a' b' c d c' d' f xsA ysA xsB ysB w hA.sh hA.da hB.sh hB.da tA tB f0 f1 hA.c1 hB.c1 hA.c2 hB.c2 hA.d1 hB.d1 hA.d2 hB.d2 hz
  · refine (mul_bad a b a' b' c d c' d' f xsA ysA xsB ysB w hA.sh hA.da hB.sh hB.da tA tB f0 f1 hA.c1 hB.c1 hA.c2 hB.c2 hz).mono ?_
    rintro e w' ⟨rfl, hb⟩
    have e0 : mulE xsA ysA xsB ysB f = outE xsA xsB := by unfold mulE; rw [if_neg hz]
    have e1 : mulX xsA ysA xsB ysB f = [] := by unfold mulX; rw [e0, if_neg hz]
    have e2 : mulY xsA ysA xsB ysB f = [] := by unfold mulY; rw [e0, if_neg hz]
    rw [e0, e1, e2]
    exact ⟨none, 0, none, 0, w'.heap.size, rfl, hb.size, Nat.le_refl _, Ints.nil _ _ _ _, ⟨⟨by simp, by decide⟩, ownB_nil _ _ _ _⟩, World.ownsRow_nil _ _ _ _, hb⟩

theorem ints2 {W : World} {b : Nat} {x y : Int} (h0 : W.cell? ⟨b, 0, none⟩ = some (.int .i64 x)) (h1 : W.cell? ⟨b, 1, none⟩ = some (.int .i64 y)) (hx : (Lit.int .i64 x).wf = true) (hy : (Lit.int .i64 y).wf = true) : Ints .i64 W W.heap.size (some ⟨b, 0, none⟩) [x, y] :=
  ⟨by simp, by simp [hx, hy], fun i hi => by
    have hb := World.block_lt_of_cell? W _ h0
    match i, hi with
    | 0, _ => exact ⟨b, 0, rfl, hb, h0⟩
    | 1, _ => exact ⟨b, 0, rfl, hb, h1⟩⟩
theorem ints1 {W : World} {b : Nat} {x : Int} (h0 : W.cell? ⟨b, 0, none⟩ = some (.int .i64 x)) (hx : (Lit.int .i64 x).wf = true) : Ints .i64 W W.heap.size (some ⟨b, 0, none⟩) [x] :=
  ⟨by simp, by simp [hx], fun i hi => by
    have hb := World.block_lt_of_cell? W _ h0
    match i, hi with
    | 0, _ => exact ⟨b, 0, rfl, hb, h0⟩⟩

theorem wakesM (W : World) (b0 b1 b2 b3 : Nat) (h1 : Ten W W.heap.size (some ⟨b0, 0, none⟩) 2 (some ⟨b1, 0, none⟩) 2 [1, 2] [256, 512]) (h2 : Ten W W.heap.size (some ⟨b2, 0, none⟩) 2 (some ⟨b3, 0, none⟩) 2 [2, 1] [256, 128]) :
    Calls Tryz.prog 10 #[.agg #[.slice (some ⟨b0, 0, none⟩) 2 2, .slice (some ⟨b1, 0, none⟩) 2 2], .agg #[.slice (some ⟨b2, 0, none⟩) 2 2, .slice (some ⟨b3, 0, none⟩) 2 2], .int .i64 8] W (RetTen W [1, 1] [512] 0) := by
  have h := matMul_any _ _ _ _ _ _ _ _ 8 _ _ _ _ W h1 h2 (by decide) (by decide) (by decide) (by decide)
  have e1 : mulX [1, 2] [256, 512] [2, 1] [256, 128] 8 = [1, 1] := by decide +kernel
  have e2 : mulY [1, 2] [256, 512] [2, 1] [256, 128] 8 = [512] := by decide +kernel
  have e3 : mulE [1, 2] [256, 512] [2, 1] [256, 128] 8 = 0 := by decide +kernel
  rw [e1, e2, e3] at h
  exact h

theorem wakes10_any (w : World) : Calls Tryz.prog 14 #[] w fun e w' => e = .returned (.bool true) ∧ Below w.heap.size w w' := by
  have hm := fun W h1 h2 => Lib.hid (wakesM W w.heap.size (w.heap.size + 1) (w.heap.size + 1 + 1) (w.heap.size + 1 + 1 + 1) h1 h2)
  go_enter Tryz.func14, Tryz.ntmps14
  go_upto_region 2 with (go_at_call 10; refine (hm _ ⟨ints2 (by simp [go_sem]) (by simp [go_sem]) (by decide) (by decide), ints2 (by simp [go_sem]) (by simp [go_sem]) (by decide) (by decide), by decide, by decide, by decide, by decide⟩ ⟨ints2 (by simp [go_sem]) (by simp [go_sem]) (by decide) (by decide), ints2 (by simp [go_sem]) (by simp [go_sem]) (by decide) (by decide), by decide, by decide, by decide, by decide⟩).out.mono ?_; rintro e w1 ⟨a1, c1, b1, d1, mid, rfl, hm1, hm2, hI, hcap, hO, hb⟩; have HB1 := Lib.hid hb; have hs1 := hb.size; (try simp at hs1); have HO1 := Lib.hid hO; clear hb hO hI hcap hm1)
  obtain ⟨aa, cc, he, hI⟩ := own_ints HO1.out (by decide)
  cases he
  have hq := fun W (hb : Below w1.heap.size w1 W) h2 => Lib.hid (eqWords_any b1 (some ⟨w1.heap.size + 1, 0, none⟩) d1 1 W.heap.size [512] [512] W ((hI.below hb (Nat.le_refl _)).mono hb.size) h2)
  clear hI
  go_wp2_with (first | (go_at_call 46; refine (num10_any _ _).mono ?_; rintro e w' ⟨rfl, rfl⟩) | (go_at_call 45; refine (hq _ (by (repeat' (first | exact Below.refl _ _ | refine below_drewN ?_ _ | refine Below.drew ?_ | refine Below.setCell ?_ (by first | omega | (simp <;> omega)) _ | refine Below.alloc ?_ (by first | omega | (simp <;> omega)) _))) (ints1 (by simp [go_sem]) (by decide))).out.mono ?_; rintro e w2 ⟨rfl, q, rfl⟩))
  go_ret
  exact ⟨rfl, Below.trans (Below.trans (by (repeat' (first | exact Below.refl _ _ | refine below_drewN ?_ _ | refine Below.drew ?_ | refine Below.setCell ?_ (by first | omega | (simp <;> omega)) _ | refine Below.alloc ?_ (by first | omega | (simp <;> omega)) _))) (HB1.out.mono (by first | omega | (simp <;> omega)))) (by (repeat' (first | exact Below.refl _ _ | refine below_drewN ?_ _ | refine Below.drew ?_ | refine Below.setCell ?_ (by first | omega | (simp <;> omega)) _ | refine Below.alloc ?_ (by first | omega | (simp <;> omega)) _)))⟩
end Go.Proofs.YtddhhfhammmaaaaGreat
