/- Walks: seed.Shuffle. -/
import Derived.Test.YtiejkdnkdmanmaaSeed1
import Derived.Test.YtiejkdnkdmanmaaShapeW4
import Derived.Test.YtiejkdnkdmanmaaInvIn
import Derived.Deep.CutBlock
import Derived.Deep.CutRange
set_option linter.unusedVariables false
set_option linter.unusedSimpArgs false
namespace Go.Rt
open Go.RowKit
theorem lst6 {α : Type} {l : List α} (h : l.length = 6) : ∃ x0 x1 x2 x3 x4 x5, l = [x0, x1, x2, x3, x4, x5] := by
  match l, h with
  | [x0, x1, x2, x3, x4, x5], _ => exact ⟨x0, x1, x2, x3, x4, x5, rfl⟩
theorem lst20 {α : Type} {l : List α} (h : l.length = 20) : ∃ x0 x1 x2 x3 x4 x5 x6 x7 x8 x9 x10 x11 x12 x13 x14 x15 x16 x17 x18 x19, l = [x0, x1, x2, x3, x4, x5, x6, x7, x8, x9, x10, x11, x12, x13, x14, x15, x16, x17, x18, x19] := by
  match l, h with
  | [x0, x1, x2, x3, x4, x5, x6, x7, x8, x9, x10, x11, x12, x13, x14, x15, x16, x17, x18, x19], _ => exact ⟨x0, x1, x2, x3, x4, x5, x6, x7, x8, x9, x10, x11, x12, x13, x14, x15, x16, x17, x18, x19, rfl⟩
theorem cellOf {B : Nat} {Wb w' : World} {a : Addr} {v : Value} (h : Below B Wb w') (hc : Wb.cell? a = some v) (hlt : a.block < B) : w'.cell? a = some v := (h.cell (p := a) hlt).trans hc
theorem frozenOf {B : Nat} {Wb w' : World} {a : Addr} {v : Bool} (h : Below B Wb w') (hc : Wb.frozen? a = v) (hlt : a.block < B) : w'.frozen? a = v := (h.frozen (p := a) hlt).trans hc
end Go.Rt
namespace Go.Proofs.Ytiejkdnkdmanmaa
open Go.RowKit Go.Rt
attribute [local go_sem] Oper.semAt_some

/-- Where a shuffle stands: its variables (B: the generator, Q: what it hands back, H: the list's head) and the row that it fills (G), all made since w. -/
structure ShuAt (w wr : World) (B Q G H : Nat) (l : List Int) (a : Option Addr) (c : Nat) (xs : List Int) (s : St) : Prop where
  row : wr.ownsRow w.heap.size 3 1 (.slice (some ⟨G, 0, none⟩) l.length l.length) l.length (l.map (Value.int .i64))
  hdr : wr.cell? ⟨H, 0, none⟩ = some (.slice (some ⟨G, 0, none⟩) l.length l.length)
  box : Box5 wr B (.slice a xs.length c) (.int .u64 (s.a : Nat)) (.int .u64 (s.b : Nat)) (.int .u64 (s.c : Nat)) (.int .u64 (s.d : Nat))
  res : Box5 wr Q (.slice none 0 0) (.int .u64 0) (.int .u64 0) (.int .u64 0) (.int .u64 0)
  script : Ints .u64 wr w.heap.size a xs
  cap : xs.length ≤ c ∧ c ≤ 9223372036854775807
  bel : Below w.heap.size w wr
  ord : w.heap.size ≤ B ∧ B < Q ∧ Q < G ∧ G < H ∧ H < wr.heap.size
theorem ShuAt.grown {w wr wr' : World} {B Q G H : Nat} {l : List Int} {a : Option Addr} {c : Nat} {xs : List Int} {s : St} {row : Option Nat} (h : ShuAt w wr B Q G H l a c xs s) (hg : wr.grownBy wr' row) (hr : ∀ r, row = some r → H < r) : ShuAt w wr' B Q G H l a c xs s := by
  obtain ⟨o1, o2, o3, o4, o5⟩ := h.ord
  have hs2 := hg.size
  have hne : ∀ b, b ≤ H → some b ≠ row := fun b hb e => by have := hr b e.symm; omega
  exact ⟨h.row.kept hg (.inr (fun e => by have := hr G e.symm; omega)), (hg.cell_far ⟨H, 0, none⟩ o5 (hne H (by omega))).trans h.hdr, h.box.grown hg (by omega) (hne B (by omega)), h.res.grown hg (by omega) (hne Q (by omega)),
    Ints.grown h.script hg (by omega) (fun r e => by have := hr r e; omega), h.cap, below_grown h.bel (by omega) hg (fun r e => by have := hr r e; omega), o1, o2, o3, o4, by omega⟩
theorem ShuAt.put {w wr : World} {B Q G H : Nat} {l : List Int} {a : Option Addr} {c : Nat} {xs : List Int} {s : St} (h : ShuAt w wr B Q G H l a c xs s) (j : Nat) (x : Int) : ShuAt w (wr.setCell ⟨G, j, none⟩ (.int .i64 x)) B Q G H (l.set j x) a c xs s := by
  obtain ⟨o1, o2, o3, o4, o5⟩ := h.ord
  obtain ⟨h1, hg⟩ := h.row.stored j (.int .i64 x)
  have hs2 := hg.size
  have hne : ∀ b, b ≠ G → some b ≠ some G := fun b hb e => hb (by injection e)
  refine ⟨?_, ?_, h.box.grown hg (by omega) (hne B (by omega)), h.res.grown hg (by omega) (hne Q (by omega)), Ints.grown h.script hg (by omega) (fun r e => by injection e; omega), h.cap, below_grown h.bel (by omega) hg (fun r e => by injection e; omega), o1, o2, o3, o4, by omega⟩
  · rw [List.length_set, List.map_set]; exact h1
  · rw [List.length_set]; exact (hg.cell_far ⟨H, 0, none⟩ o5 (hne H (by omega))).trans h.hdr
theorem ShuAt.set {w wr : World} {B Q G H : Nat} {l : List Int} {a : Option Addr} {c : Nat} {xs : List Int} {s : St} (h : ShuAt w wr B Q G H l a c xs s) (a' : Option Addr) (c' : Nat) (xs' : List Int) (s' : St) (hI : Ints .u64 wr w.heap.size a' xs') (hc : xs'.length ≤ c' ∧ c' ≤ 9223372036854775807) :
    ShuAt w (set5 wr B (.slice a' xs'.length c') (.int .u64 (s'.a : Nat)) (.int .u64 (s'.b : Nat)) (.int .u64 (s'.c : Nat)) (.int .u64 (s'.d : Nat))) B Q G H l a' c' xs' s' := by
  obtain ⟨o1, o2, o3, o4, o5⟩ := h.ord
  have hg := grown_set5 wr B (.slice a' xs'.length c') (.int .u64 (s'.a : Nat)) (.int .u64 (s'.b : Nat)) (.int .u64 (s'.c : Nat)) (.int .u64 (s'.d : Nat))
  have hs2 := hg.size
  have hne : ∀ b, b ≠ B → some b ≠ some B := fun b hb e => hb (by injection e)
  exact ⟨h.row.kept hg (.inr (fun e => (hne G (by omega)) e)), (hg.cell_far ⟨H, 0, none⟩ o5 (hne H (by omega))).trans h.hdr, h.box.set _ _ _ _ _, h.res.grown hg (by omega) (hne Q (by omega)),
    Ints.grown hI hg (by omega) (fun r e => by injection e; omega), hc, below_grown h.bel (by omega) hg (fun r e => by injection e; omega), o1, o2, o3, o4, by omega⟩
theorem ShuAt.at {w wr : World} {B Q G H : Nat} {l : List Int} {a : Option Addr} {c : Nat} {xs : List Int} {s : St} (h : ShuAt w wr B Q G H l a c xs s) {j : Nat} (hj : j < l.length) : wr.cell? ⟨G, j, none⟩ = some (.int .i64 (l[j]?.getD 0)) ∧ wr.frozen? ⟨G, j, none⟩ = false :=
  ⟨own_cell h.row hj, h.row.frozenAt j⟩

/-- What a round of the shuffle's loop finds: the loop's record, the iterator's variables from T on. -/
def ShuJ (w : World) (G T : Nat) (R : LoopState → Option Code → Loop) (l : List Int) (xs : List Int) (s : St) (W : World) : Prop :=
  W.heap[T + 2 + 1]? = some (.loop (R .ready none)) ∧ W.heap[T + 2]? = some (.deferred (some [])) ∧ T + 4 ≤ W.heap.size ∧ ∃ a c, ShuAt w W w.heap.size (w.heap.size + 1) G (G + 1) l a c xs s
theorem ShuJ.grown {w : World} {G T : Nat} {R : LoopState → Option Code → Loop} {l xs : List Int} {s : St} {W W' : World} (h : ShuJ w G T R l xs s W) (hg : W.grownBy W' (some T)) (hT : G + 1 < T) : ShuJ w G T R l xs s W' := by
  obtain ⟨j1, j2, j3, a, c, j4⟩ := h
  have hs := hg.size
  exact ⟨(hg.block _ (by omega) (by simp <;> omega)).trans j1, (hg.block _ (by omega) (by simp)).trans j2, by omega, a, c, j4.grown hg (fun r e => by injection e; omega)⟩
theorem shu_round {w V w1 : World} {G T : Nat} {R : LoopState → Option Code → Loop} {l xs X1 : List Int} {s S1 : St} {a a0 : Option Addr} {c c0 : Nat} (hA : ShuAt w w1 w.heap.size (w.heap.size + 1) G (G + 1) l a c xs s) (hg : V.grownBy w1 (some G)) (hT : G + 1 < T) (hl : V.heap[T + 2 + 1]? = some (.loop (R .busy none))) (hd : V.heap[T + 2]? = some (.deferred (some []))) (hsz : T + 4 ≤ V.heap.size)
    (hbx : Box5 V T (.slice a0 X1.length c0) (.int .u64 (S1.a : Nat)) (.int .u64 (S1.b : Nat)) (.int .u64 (S1.c : Nat)) (.int .u64 (S1.d : Nat))) (hI : Ints .u64 V w.heap.size a0 X1) (hc : X1.length ≤ c0 ∧ c0 ≤ 9223372036854775807) :
    (set5 w1 w.heap.size (.slice a0 X1.length c0) (.int .u64 (S1.a : Nat)) (.int .u64 (S1.b : Nat)) (.int .u64 (S1.c : Nat)) (.int .u64 (S1.d : Nat))).heap[T + 2 + 1]? = some (.loop (R .busy none)) ∧
    (∀ o, o = Obj.loop (R .ready none) → ShuJ w G T R l X1 S1 ((set5 w1 w.heap.size (.slice a0 X1.length c0) (.int .u64 (S1.a : Nat)) (.int .u64 (S1.b : Nat)) (.int .u64 (S1.c : Nat)) (.int .u64 (S1.d : Nat))).putObj (T + 2 + 1) o) ∧
      Ints .u64 ((set5 w1 w.heap.size (.slice a0 X1.length c0) (.int .u64 (S1.a : Nat)) (.int .u64 (S1.b : Nat)) (.int .u64 (S1.c : Nat)) (.int .u64 (S1.d : Nat))).putObj (T + 2 + 1) o) w.heap.size a0 X1 ∧
      T < ((set5 w1 w.heap.size (.slice a0 X1.length c0) (.int .u64 (S1.a : Nat)) (.int .u64 (S1.b : Nat)) (.int .u64 (S1.c : Nat)) (.int .u64 (S1.d : Nat))).putObj (T + 2 + 1) o).heap.size ∧
      Box5 ((set5 w1 w.heap.size (.slice a0 X1.length c0) (.int .u64 (S1.a : Nat)) (.int .u64 (S1.b : Nat)) (.int .u64 (S1.c : Nat)) (.int .u64 (S1.d : Nat))).putObj (T + 2 + 1) o) T (.slice a0 X1.length c0) (.int .u64 (S1.a : Nat)) (.int .u64 (S1.b : Nat)) (.int .u64 (S1.c : Nat)) (.int .u64 (S1.d : Nat))) := by
  obtain ⟨o1, o2, o3, o4, o5⟩ := hA.ord
  have hg3 := grown_set5 w1 w.heap.size (.slice a0 X1.length c0) (.int .u64 (S1.a : Nat)) (.int .u64 (S1.b : Nat)) (.int .u64 (S1.c : Nat)) (.int .u64 (S1.d : Nat))
  have s0 := hg.size
  have s3 := hg3.size
  have hbl : ∀ b, b < V.heap.size → b ≠ G → b ≠ w.heap.size → (set5 w1 w.heap.size (.slice a0 X1.length c0) (.int .u64 (S1.a : Nat)) (.int .u64 (S1.b : Nat)) (.int .u64 (S1.c : Nat)) (.int .u64 (S1.d : Nat))).heap[b]? = V.heap[b]? := fun b h1 h3 h4 =>
    (hg3.block b (by omega) (fun e => h4 (by injection e))).trans (hg.block b h1 (fun e => h3 (by injection e)))
  have hI1 := Ints.grown hI hg (by omega) (fun r e => by injection e; omega)
  have hA3 := hA.set a0 c0 X1 S1 hI1 hc
  have hb3 := (hbx.grown hg (by omega) (by simp; omega)).grown hg3 (by omega) (by simp; omega)
  have hI4 := Ints.grown hI1 hg3 (by omega) (fun r e => by injection e; omega)
  have hl3 := (hbl (T + 2 + 1) (by omega) (by omega) (by omega)).trans hl
  have hd3 := (hbl (T + 2) (by omega) (by omega) (by omega)).trans hd
  generalize (set5 w1 w.heap.size (.slice a0 X1.length c0) (.int .u64 (S1.a : Nat)) (.int .u64 (S1.b : Nat)) (.int .u64 (S1.c : Nat)) (.int .u64 (S1.d : Nat))) = U at *
  refine ⟨hl3, fun o ho => ?_⟩
  have hg4 := grownBy_putObj' U (T + 2 + 1) o
  have s4 := hg4.size
  refine ⟨⟨?_, (hg4.block _ (by omega) (by simp)).trans hd3, by omega, a0, c0, hA3.grown hg4 (fun r e => by injection e; omega)⟩, Ints.grown hI4 hg4 (by omega) (fun r e => by injection e; omega), by omega, hb3.grown hg4 (by omega) (by simp; omega)⟩
  rw [← ho]
  exact World.putObj_heap_same (by omega)
/-- The list behind k of the two stores. -/
def shuL (l : List Int) (i d : Nat) (x y : Int) : Nat → List Int
  | 0 => l
  | 1 => l.set i x
  | _ => (l.set i x).set d y
theorem shuL_len (l : List Int) (i d : Nat) (x y : Int) : ∀ k, (shuL l i d x y k).length = l.length
  | 0 => rfl
  | 1 => by simp [shuL]
  | _ + 2 => by simp [shuL]
/-- A generator of one's own, as a value. -/
def IsGen (base : Nat) (xs : List Int) (s : St) (u : Value) (w : World) : Prop :=
  ∃ a c b, u = .agg #[.slice a xs.length c, .int .u64 (s.a : Nat), .int .u64 (s.b : Nat), .int .u64 (s.c : Nat), .int .u64 (s.d : Nat)] ∧ base ≤ b ∧ w.ownsRow b 24 1 (.slice a xs.length c) xs.length (xs.map (Value.int .u64))
theorem isGen_carries (base : Nat) (xs : List Int) (s : St) : Carries (IsGen base xs s) := by
  rintro u w w' ⟨a, c, b, h1, h2, h3⟩ hb
  exact ⟨a, c, b, h1, h2, own_below h3 hb (Nat.le_refl _)⟩
theorem row_kept {W W' : World} {base b : Nat} {e : TypeId} {v : Value} {k : Nat} {xs : List Value} (h : W.ownsRow base e 1 v k xs) (hg : W.grownBy W' (some b)) (hb : b < base) : W'.ownsRow base e 1 v k xs := by
  refine h.kept hg ?_
  cases hv : v.ownBlock with
  | none => exact .inl rfl
  | some g =>
    refine .inr fun e => ?_
    injection e with e
    have := (h.lt g hv).1
    omega
/-- What a call hands back that shuffles: the list, the generator. -/
def RetShuf (w : World) (l : List Int) (xs : List Int) (s : St) (z : Int) (e : Ending) (w' : World) : Prop :=
  ∃ a c a2 c2 b2, e = .returned (.tuple #[.slice a l.length c, .agg #[.slice a2 xs.length c2, .int .u64 (s.a : Nat), .int .u64 (s.b : Nat), .int .u64 (s.c : Nat), .int .u64 (s.d : Nat)], .int .i64 z]) ∧ w'.ownsRow w.heap.size 3 1 (.slice a l.length c) l.length (l.map (Value.int .i64)) ∧
    w'.ownsRow b2 24 1 (.slice a2 xs.length c2) xs.length (xs.map (Value.int .u64)) ∧ w.heap.size ≤ b2 ∧ (∀ g, (Value.slice a l.length c).ownBlock = some g → g < b2) ∧ Below w.heap.size w w'

set_option maxRecDepth 100000 in
set_option maxHeartbeats 2000000 in
theorem shuffle_any (a : Option Addr) (c : Nat) (xs : List Int) (s : St) (N : Nat) (w : World) (hs : GoodS xs s) (hi : Ints .u64 w w.heap.size a xs) (hg4 : xs.length ≤ 4096) (hc : xs.length ≤ c) (hc2 : c ≤ 9223372036854775807) (hN : N + 1 ≤ 65536) :
    Calls Try.prog 80 #[.agg #[.slice a xs.length c, .int .u64 (s.a : Nat), .int .u64 (s.b : Nat), .int .u64 (s.c : Nat), .int .u64 (s.d : Nat)], .int .i64 ((N + 1 : Nat) : Int)] w (RetShuf w (lst N xs s N) (tur N xs s N).1 (tur N xs s N).2 0) := by
  have hgd := fun w => Lib.hid (rgood_any a xs.length c s w hs.1 (by omega))
  have hgR : goodR xs.length s = true := by unfold goodR; rw [hs.2.1]; simp [hg4]
  rw [hgR] at hgd
  have hcn := fun w => Lib.hid (count_yes ((N + 1 : Nat) : Int) w (by omega) (by omega))
  obtain ⟨m, hm⟩ : ∃ m, N + 1 = m := ⟨_, rfl⟩
  rw [hm] at hcn ⊢
  have hm1 : 1 ≤ m := by omega
  have hm2 : m ≤ 65536 := by omega
  have HM := Lib.hid hm
  have HS := Lib.hid hs
  have HI := Lib.hid hi
  clear hm hs hgR hi
  refine (callsIn_wide (n := 9)).1 ?_
  refine callsIn_of_wp_marks Try.func80 rfl trivial ?_ rfl
  simp only [Try.ntmps80, List.size_toArray, List.length_cons, List.length_nil, Nat.reduceAdd, Nat.reduceSub, Array.replicate_succ, Array.replicate_zero, List.push_toArray, List.append_toArray, List.nil_append, List.cons_append]
  refine wpIn_wide.2 ?_
  go_wp2_with (first | (go_at_call 59; refine (hgd _).out.mono ?_; rintro e w0 ⟨rfl, hb0⟩; have hz0 := hb0.size; (try simp only [World.size_alloc] at hz0); obtain ⟨p0, p1, p2, p3, p4, p5, p6, p7, p8, p9⟩ := Box5.below (b := w.heap.size) (v0 := .slice a xs.length c) (v1 := .int .u64 (s.a : Nat)) (v2 := .int .u64 (s.b : Nat)) (v3 := .int .u64 (s.c : Nat)) (v4 := .int .u64 (s.d : Nat)) (by constructor <;> go_simp) hb0 (by simp <;> omega); obtain ⟨q0, q1, q2, q3, q4, q5, q6, q7, q8, q9⟩ := Box5.below (b := w.heap.size + 1) (v0 := .slice none 0 0) (v1 := .int .u64 0) (v2 := .int .u64 0) (v3 := .int .u64 0) (v4 := .int .u64 0) (by constructor <;> go_simp) hb0 (by simp); have HB0 : Hid (Below w.heap.size w w0) := Lib.hid (Below.trans (by (repeat' (first | exact Below.refl _ _ | refine Below.alloc ?_ (by simp) _))) (hb0.mono (by simp <;> omega))); clear hb0) | (go_at_call 88; refine (hcn _).out.mono ?_; rintro e w' ⟨rfl, rfl⟩) | (at_make; (refine wpl_make 46 3 .i64 infoInt Try.underlying46 w.heap.size m _ _ _ _ rfl rfl rfl rfl rfl rfl (by omega) (by omega) ?_); intro w1 hown hgrow hz1))
  have hz2 : w1.heap.size = w0.heap.size + 1 := hz1
  have hV0 : Below w.heap.size w (w1.alloc (.cells #[.slice (some ⟨w0.heap.size, 0, none⟩) m m] 46)) := (HB0.out.trans ((hgrow _ (Nat.le_refl _)).mono (by omega))).alloc (by omega) _
  have HA : Hid (ShuAt w (w1.alloc (.cells #[.slice (some ⟨w0.heap.size, 0, none⟩) m m] 46)) w.heap.size (w.heap.size + 1) w0.heap.size (w0.heap.size + 1) (frontL ((List.range m).map fun k : Nat => (k : Int)) 0) a c xs s) := by
    have hbb : Below w0.heap.size w0 (w1.alloc (.cells #[.slice (some ⟨w0.heap.size, 0, none⟩) m m] 46)) := (hgrow _ (Nat.le_refl _)).alloc (by omega) _
    have hl : (frontL ((List.range m).map fun k : Nat => (k : Int)) 0).length = m := by rw [frontL_zero]; simp
    refine Lib.hid ⟨?_, ?_, Box5.below (w := w0) ⟨p0, p1, p2, p3, p4, p5, p6, p7, p8, p9⟩ hbb (by omega), Box5.below (w := w0) ⟨q0, q1, q2, q3, q4, q5, q6, q7, q8, q9⟩ hbb (by omega), HI.out.below hV0 (Nat.le_refl _), ⟨hc, hc2⟩, hV0, Nat.le_refl _, by omega, by omega, by omega, by simp; omega⟩
    · rw [hl, frontL_zero]
      have := own_mono (hown.alloc (.cells #[.slice (some ⟨w0.heap.size, 0, none⟩) m m] 46)) (base' := w.heap.size) (by omega)
      simpa using this
    · rw [hl, ← hz2]; simp [go_sem]
  clear p0 p1 p2 p3 p4 p5 p6 p7 p8 p9 q0 q1 q2 q3 q4 q5 q6 q7 q8 q9 hgrow hown hV0 hz1
  generalize w0.heap.size = G at *
  obtain ⟨V0, hV0⟩ : ∃ V0, w1.alloc (.cells #[.slice (some ⟨G, 0, none⟩) m m] 46) = V0 := ⟨_, rfl⟩
  rw [hV0] at HA ⊢
  clear hV0 hz2
  have hS : ∀ k, k ≤ m → (frontL ((List.range m).map fun k : Nat => (k : Int)) k).length = m := fun k hk => by simp [frontL]; omega
  have hSS : ∀ k, k < m → (frontL ((List.range m).map fun k : Nat => (k : Int)) k).set k (k : Int) = frontL ((List.range m).map fun k : Nat => (k : Int)) (k + 1) := fun k hk => frontL_set _ k (by simp; omega) _ (by simp [hk])
  have hSE : frontL ((List.range m).map fun k : Nat => (k : Int)) m = (List.range m).map fun k : Nat => (k : Int) := by have := frontL_full ((List.range m).map fun k : Nat => (k : Int)); simpa using this
  have HSL := Lib.hid hS
  have HSS := Lib.hid hSS
  have HSE := Lib.hid hSE
  clear hS hSS hSE
  go_loopw [24] (fun i wr => ∃ k : Nat, k ≤ m ∧ i = .int .i64 k ∧ Hid (ShuAt w wr w.heap.size (w.heap.size + 1) G (G + 1) (frontL ((List.range m).map fun k : Nat => (k : Int)) k) a c xs s)) (fun i _ => m - (intOf i).toNat)
  case atStart => exact ⟨0, Nat.zero_le _, rfl, HA⟩
  case round =>
    clear HA
    obtain ⟨k, hk, rfl, HA⟩ := hrel
    by_cases hlt : k < m
    · have hh := HA.out.hdr
      rw [HSL.out k hk] at hh
      have hcell := HA.out.at (j := k) (by rw [HSL.out k hk]; exact hlt)
      obtain ⟨hc1, hc3⟩ := hcell
      have ho := HA.out.ord
      obtain ⟨o1, o2, o3, o4, o5⟩ := ho
      go_wp2
      go_roundw
      case rel => exact ⟨k + 1, by omega, by go_num, Lib.hid (by rw [← HSS.out k hlt]; exact HA.out.put k (k : Int))⟩
      case measure => simp [intOf]; omega
    · obtain rfl : k = m := by omega
      rw [HSE.out] at HA
      have hh := HA.out.hdr
      rw [show ((List.range k).map fun k : Nat => (k : Int)).length = k by simp] at hh
      obtain ⟨b0, b1, b2, b3, b4, _, _, _, _, _⟩ := HA.out.box
      have ho := HA.out.ord
      obtain ⟨o1, o2, o3, o4, o5⟩ := ho
      have htu := fun w => Lib.hid (turns_any a xs.length c s (k : Int) w)
      go_upto_block 2 with (go_at_call 89; refine (htu _).out.mono ?_; rintro e w3 ⟨rfl, rfl⟩)
      have HWB : Hid (Box5 ((wr.alloc (.cells #[.slice a xs.length c, .int .u64 (s.a : Nat), .int .u64 (s.b : Nat), .int .u64 (s.c : Nat), .int .u64 (s.d : Nat)] 27)).alloc (.cells #[.int .i64 (k : Int)] 3)) wr.heap.size (.slice a xs.length c) (.int .u64 (s.a : Nat)) (.int .u64 (s.b : Nat)) (.int .u64 (s.c : Nat)) (.int .u64 (s.d : Nat))) := Lib.hid (by constructor <;> go_simp)
      have HWN : Hid (((wr.alloc (.cells #[.slice a xs.length c, .int .u64 (s.a : Nat), .int .u64 (s.b : Nat), .int .u64 (s.c : Nat), .int .u64 (s.d : Nat)] 27)).alloc (.cells #[.int .i64 (k : Int)] 3)).cell? ⟨wr.heap.size + 1, 0, none⟩ = some (.int .i64 (k : Int))) := Lib.hid (by simp [go_sem])
      have hWz : ((wr.alloc (.cells #[.slice a xs.length c, .int .u64 (s.a : Nat), .int .u64 (s.b : Nat), .int .u64 (s.c : Nat), .int .u64 (s.d : Nat)] 27)).alloc (.cells #[.int .i64 (k : Int)] 3)).heap.size = wr.heap.size + 2 := by simp
      obtain ⟨T, hT⟩ : ∃ T, wr.heap.size = T := ⟨_, rfl⟩
      obtain ⟨W, hW⟩ : ∃ W, ((wr.alloc (.cells #[.slice a xs.length c, .int .u64 (s.a : Nat), .int .u64 (s.b : Nat), .int .u64 (s.c : Nat), .int .u64 (s.d : Nat)] 27)).alloc (.cells #[.int .i64 (k : Int)] 3)) = W := ⟨_, rfl⟩
      rw [hW, hT] at HWB HWN hWz
      have HWA : Hid (ShuAt w W w.heap.size (w.heap.size + 1) G (G + 1) ((List.range k).map fun k : Nat => (k : Int)) a c xs s) := Lib.hid (by rw [← hW]; exact (HA.out.grown (World.grownBy_alloc wr _ none) (fun r e => by cases e)).grown (World.grownBy_alloc _ _ none) (fun r e => by cases e))
      rw [hT, hW]
      rw [hT] at o5
      clear hW hT HA hh b0 b1 b2 b3 b4 htu hcn hgd HSL HSS HSE hlt hk o1 o2 o4
      have HOWN := fun a c W (h : Ints .u64 W W.heap.size a (tur N xs s N).1) => Lib.hid (seedOwn_any a c (tur N xs s N).1 (tur N xs s N).2 W h (Nat.le_trans (tur_len N xs s N) (by omega)))
      go_wp2
      refine wpIn_wide.1 (wpIn_rangeFunc_any (n := 9) rfl (by omega) (gf := 93) (lb := #[.pointer (some ⟨T + 1, 0, none⟩), .pointer (some ⟨T, 0, none⟩)]) rfl trivial (enters_of Try.func93 (by kernel_rfl) rfl) (T + 2) hWz
        (fun W2 => W2.heap[T + 2]? = some (.deferred (some [])) ∧ T + 4 ≤ W2.heap.size ∧ ∃ a c, ShuAt w W2 w.heap.size (w.heap.size + 1) G (G + 1) (lst N xs s N) a c (tur N xs s N).1 (tur N xs s N).2) (fun _ _ => False) ?hcall ?hdone (fun _ _ _ _ h => h.elim))
      case hcall =>
        intro fn R hfn hR
        have HR := Lib.hid hR
        clear hR
        refine (turnsIter 8 (by omega) (T + 2 + 1) T (T + 1) w.heap.size N xs s (fun j W2 => ShuJ w G T R (lst N xs s j) (tur N xs s j).1 (tur N xs s j).2 W2) _ HS.out (by omega) (by omega) (fun i W1 W2 h hg => h.grown hg (by omega)) ?hY a c ?hB ?hbox ?hi hc hc2 ?hbn ?h0).mono ?post
        case post =>
          rintro e W2 ⟨hv, j1, j2, j3, a9, c9, j4⟩
          exact ⟨hv, .inl ⟨⟨j2, j3, a9, c9, j4⟩, j1⟩⟩
        case hB => simp; omega
        case hbox => exact (HWB.out.grown (World.grownBy_alloc W _ none) (by omega) (by simp)).grown (World.grownBy_alloc _ _ none) (by simp; omega) (by simp)
        case hi => exact HI.out.below (B := w.heap.size) ((HWA.out.bel.alloc (by have := HWA.out.ord; omega) _).alloc (by have := HWA.out.ord; simp; omega) _) (Nat.le_refl _)
        case hbn => rw [HM.out]; exact ((World.grownBy_alloc (W.alloc _) _ none).cell_far ⟨T + 1, 0, none⟩ (by show T + 1 < _; simp; omega) (by simp)).trans (((World.grownBy_alloc W _ none).cell_far ⟨T + 1, 0, none⟩ (by show T + 1 < _; omega) (by simp)).trans HWN.out)
        case h0 =>
          have h2 := heap_two W (.deferred (some [])) (.loop (R .ready none)) (T + 2) hWz
          refine ⟨h2.1, h2.2, by simp; omega, a, c, ?_⟩
          have e0 : lst N xs s 0 = (List.range k).map fun k : Nat => (k : Int) := by rw [← HM.out]; rfl
          rw [e0]
          exact (HWA.out.grown (World.grownBy_alloc W _ none) (fun r e => by cases e)).grown (World.grownBy_alloc _ _ none) (fun r e => by cases e)
        case hY =>
          rintro j a0 c0 W1 hj ⟨j1, j2, j3, a9, c9, hSA⟩ hI1 hl1 hcm1 hbox1
          refine yieldAt_round hfn HR.out j1 rfl ?_
          have hD := turD_bounds N xs s j
          obtain ⟨d, hd⟩ : ∃ d : Nat, turD N xs s j = (d : Int) := ⟨(turD N xs s j).toNat, by omega⟩
          have HLS : Hid (lst N xs s (j + 1) = swapI (lst N xs s j) (N - j) d) := Lib.hid (by rw [lst, hd, Int.toNat_natCast])
          have HLL := Lib.hid (lst_len N xs s j)
          rw [hd] at hD ⊢
          rw [HLS.out]
          obtain ⟨i, hij⟩ : ∃ i, N - j = i := ⟨_, rfl⟩
          rw [hij] at HLS hD ⊢
          have hik : i < k := by have := HM.out; omega
          have hdk : d < k := by have := HM.out; omega
          obtain ⟨L, hL⟩ : ∃ L, lst N xs s j = L := ⟨_, rfl⟩
          rw [hL] at HLL HLS hSA ⊢
          have HLK : Hid (L.length = k) := Lib.hid (by rw [HLL.out]; exact HM.out)
          obtain ⟨X1, hX1⟩ : ∃ X, (tur N xs s (j + 1)).1 = X := ⟨_, rfl⟩
          obtain ⟨S1, hS1⟩ : ∃ X, (tur N xs s (j + 1)).2 = X := ⟨_, rfl⟩
          rw [hX1, hS1] at hbox1 ⊢
          rw [hX1] at hI1 hl1
          obtain ⟨X0, hX0⟩ : ∃ X, (tur N xs s j).1 = X := ⟨_, rfl⟩
          obtain ⟨S0, hS0⟩ : ∃ X, (tur N xs s j).2 = X := ⟨_, rfl⟩
          rw [hX0, hS0] at hSA
          have J1 := Lib.hid j1
          have J2 := Lib.hid j2
          have HSA := Lib.hid hSA
          have HI1 := Lib.hid hI1
          have HB1 := Lib.hid hbox1
          clear j1 j2 hSA hI1 hbox1 hL hX1 hS1 hX0 hS0 hij hd HLL hD hfn HR HWA HWB HWN HOWN HI HS HB0
          gi_wp2
          have hgA := World.grownBy_alloc W1 (.cells #[.int .i64 (i : Int), .int .i64 (d : Int)] 113) (some (T + 2 + 1))
          have hgB := World.grownBy_alloc (W1.alloc (.cells #[.int .i64 (i : Int), .int .i64 (d : Int)] 113)) (.cells #[.slice a0 X1.length c0, .int .u64 (S1.a : Nat), .int .u64 (S1.b : Nat), .int .u64 (S1.c : Nat), .int .u64 (S1.d : Nat)] 27) (some (T + 2 + 1))
          refine ⟨((World.grownBy_alloc _ _ none).block _ (by simp; omega) (by simp)).trans (((World.grownBy_alloc W1 _ none).block _ (by omega) (by simp)).trans J1.out), ?_⟩
          have hgC := grownBy_putObj' ((W1.alloc (.cells #[.int .i64 (i : Int), .int .i64 (d : Int)] 113)).alloc (.cells #[.slice a0 X1.length c0, .int .u64 (S1.a : Nat), .int .u64 (S1.b : Nat), .int .u64 (S1.c : Nat), .int .u64 (S1.d : Nat)] 27)) (T + 2 + 1) (.loop (R .busy none))
          have hgV := grown_trans (grown_trans hgA hgB) hgC
          have HP0 : Hid ((((W1.alloc (.cells #[.int .i64 (i : Int), .int .i64 (d : Int)] 113)).alloc (.cells #[.slice a0 X1.length c0, .int .u64 (S1.a : Nat), .int .u64 (S1.b : Nat), .int .u64 (S1.c : Nat), .int .u64 (S1.d : Nat)] 27)).putObj (T + 2 + 1) (.loop (R .busy none))).cell? ⟨W1.heap.size, 0, none⟩ = some (.int .i64 (i : Int))) := Lib.hid ((hgC.cell_far ⟨W1.heap.size, 0, none⟩ (by show W1.heap.size < _; simp; omega) (by simp; omega)).trans (by simp [go_sem]))
          have HP1 : Hid ((((W1.alloc (.cells #[.int .i64 (i : Int), .int .i64 (d : Int)] 113)).alloc (.cells #[.slice a0 X1.length c0, .int .u64 (S1.a : Nat), .int .u64 (S1.b : Nat), .int .u64 (S1.c : Nat), .int .u64 (S1.d : Nat)] 27)).putObj (T + 2 + 1) (.loop (R .busy none))).cell? ⟨W1.heap.size, 1, none⟩ = some (.int .i64 (d : Int))) := Lib.hid ((hgC.cell_far ⟨W1.heap.size, 1, none⟩ (by show W1.heap.size < _; simp; omega) (by simp; omega)).trans (by simp [go_sem]))
          have HNB : Hid (Box5 (((W1.alloc (.cells #[.int .i64 (i : Int), .int .i64 (d : Int)] 113)).alloc (.cells #[.slice a0 X1.length c0, .int .u64 (S1.a : Nat), .int .u64 (S1.b : Nat), .int .u64 (S1.c : Nat), .int .u64 (S1.d : Nat)] 27)).putObj (T + 2 + 1) (.loop (R .busy none))) (W1.heap.size + 1) (.slice a0 X1.length c0) (.int .u64 (S1.a : Nat)) (.int .u64 (S1.b : Nat)) (.int .u64 (S1.c : Nat)) (.int .u64 (S1.d : Nat))) := Lib.hid (Box5.grown (w := ((W1.alloc (.cells #[.int .i64 (i : Int), .int .i64 (d : Int)] 113)).alloc (.cells #[.slice a0 X1.length c0, .int .u64 (S1.a : Nat), .int .u64 (S1.b : Nat), .int .u64 (S1.c : Nat), .int .u64 (S1.d : Nat)] 27))) (by constructor <;> go_simp) hgC (by simp) (by simp; omega))
          have HLV : Hid ((((W1.alloc (.cells #[.int .i64 (i : Int), .int .i64 (d : Int)] 113)).alloc (.cells #[.slice a0 X1.length c0, .int .u64 (S1.a : Nat), .int .u64 (S1.b : Nat), .int .u64 (S1.c : Nat), .int .u64 (S1.d : Nat)] 27)).putObj (T + 2 + 1) (.loop (R .busy none))).heap[T + 2 + 1]? = some (.loop (R .busy none))) := Lib.hid (World.putObj_heap_same (by simp; omega))
          have hszV := hgV.size
          have HDV := Lib.hid ((hgV.block _ (by omega) (by simp)).trans J2.out)
          have HSV := Lib.hid (HSA.out.grown hgV (fun r e => by injection e; omega))
          have HIV := Lib.hid (Ints.grown HI1.out hgV (by have := HSA.out.ord; omega) (fun r e => by injection e; omega))
          have HTV := Lib.hid (HB1.out.grown hgV (by omega) (by simp; omega))
          have hszW : (((W1.alloc (.cells #[.int .i64 (i : Int), .int .i64 (d : Int)] 113)).alloc (.cells #[.slice a0 X1.length c0, .int .u64 (S1.a : Nat), .int .u64 (S1.b : Nat), .int .u64 (S1.c : Nat), .int .u64 (S1.d : Nat)] 27)).putObj (T + 2 + 1) (.loop (R .busy none))).heap.size = W1.heap.size + 2 := by simp
          obtain ⟨V, hV⟩ : ∃ V, (((W1.alloc (.cells #[.int .i64 (i : Int), .int .i64 (d : Int)] 113)).alloc (.cells #[.slice a0 X1.length c0, .int .u64 (S1.a : Nat), .int .u64 (S1.b : Nat), .int .u64 (S1.c : Nat), .int .u64 (S1.d : Nat)] 27)).putObj (T + 2 + 1) (.loop (R .busy none))) = V := ⟨_, rfl⟩
          obtain ⟨P, hP⟩ : ∃ P, W1.heap.size = P := ⟨_, rfl⟩
          rw [hV, hP] at HP0 HP1 HNB hszW
          rw [hV] at HLV HDV HSV HIV HTV hszV
          rw [hP] at j3 hszV
          rw [hV, hP]
          clear hV hP hgA hgB hgC hgV J1 J2 HSA HI1 HB1
          have HH := HSV.out.hdr
          rw [HLK.out] at HH
          obtain ⟨Ld, hLd⟩ : ∃ y, L[d]?.getD 0 = y := ⟨_, rfl⟩
          obtain ⟨Li, hLi⟩ : ∃ y, L[i]?.getD 0 = y := ⟨_, rfl⟩
          have hgd := HSV.out.at (j := d) (by rw [HLK.out]; exact hdk)
          have hgi := HSV.out.at (j := i) (by rw [HLK.out]; exact hik)
          rw [hLd] at hgd
          rw [hLi] at hgi
          obtain ⟨d1, d2⟩ := hgd
          obtain ⟨i1, i2⟩ := hgi
          have HSW : Hid (swapI L i d = (L.set i Ld).set d Li) := Lib.hid (by unfold swapI; rw [hLd, hLi])
          have HLd := Lib.hid hLd
          have HLi := Lib.hid hLi
          clear hLd hLi
          have HR2 := fun w1 (hA : ShuAt w w1 w.heap.size (w.heap.size + 1) G (G + 1) ((L.set i Ld).set d Li) a9 c9 X0 S0) (hg : V.grownBy w1 (some G)) => shu_round hA hg o5 HLV.out HDV.out (by omega) HTV.out HIV.out ⟨hl1, hcm1⟩
          have HRR := Lib.hid HR2
          clear HR2
          have hGV : G + 1 < V.heap.size := by omega
          have hPV : P + 1 < V.heap.size := by omega
          have HHd := Lib.hid HH
          have HP0d := HP0
          have HP1d := HP1
          have Hd1 := Lib.hid d1
          have Hd2 := Lib.hid d2
          have Hi1 := Lib.hid i1
          have Hi2 := Lib.hid i2
          clear HH d1 d2 i1 i2 hm1 hcm1 hl1 hj
          gi_wp2
          refine wpIn_region_inv (w := V) 20 (fun A B => A.grownBy B (some G)) (fun k1 W1 => ShuAt w W1 w.heap.size (w.heap.size + 1) G (G + 1) (shuL L i d Ld Li k1) a9 c9 X0 S0) [17, 19] [(fun u _ => u = .slice (some ⟨G, 0, none⟩) k k), (fun u _ => u = .pointer (some ⟨P, 0, none⟩)), (fun u _ => u = .int .i64 (i : Int)), (fun u _ => u = .slice (some ⟨G, 0, none⟩) k k), (fun u _ => u = .pointer (some ⟨P, 1, none⟩)), (fun u _ => u = .int .i64 (d : Int)), (fun u _ => u = .slice (some ⟨G, 0, none⟩) k k), (fun u _ => u = .pointer (some ⟨P, 1, none⟩)), (fun u _ => u = .int .i64 (d : Int)), (fun u _ => u = .pointer (some ⟨G, d, none⟩)), (fun u _ => u = .int .i64 Ld), (fun u _ => u = .slice (some ⟨G, 0, none⟩) k k), (fun u _ => u = .pointer (some ⟨P, 0, none⟩)), (fun u _ => u = .int .i64 (i : Int)), (fun u _ => u = .pointer (some ⟨G, i, none⟩)), (fun u _ => u = .int .i64 Li), (fun u _ => u = .pointer (some ⟨G, i, none⟩)), (fun _ _ => True), (fun u _ => u = .pointer (some ⟨G, d, none⟩)), (fun _ _ => True)] [some 37, some 38, some 39, some 40, some 41, some 42, some 43, some 44, some 45, some 46, some 47, some 48, some 49, some 50, some 51, some 52, some 53, none, some 54, none] (by kernel_rfl) (by kernel_rfl) rfl (by kernel_rfl) (by kernel_rfl) (by decide) (by decide) (fun h k => grown_trans h k) ⟨rfl, rfl, rfl, Nat.le_refl _, fun _ _ _ => rfl⟩ (HSV.out.grown (row := none) ⟨rfl, rfl, rfl, Nat.le_refl _, fun _ _ _ => rfl⟩ (fun r e => by cases e)) (BorneAll.at (.cons (borne_eq _) (.cons (borne_eq _) (.cons (borne_eq _) (.cons (borne_eq _) (.cons (borne_eq _) (.cons (borne_eq _) (.cons (borne_eq _) (.cons (borne_eq _) (.cons (borne_eq _) (.cons (borne_eq _) (.cons (borne_eq _) (.cons (borne_eq _) (.cons (borne_eq _) (.cons (borne_eq _) (.cons (borne_eq _) (.cons (borne_eq _) (.cons (borne_eq _) (.cons (fun _ _ _ _ _ => trivial) (.cons (borne_eq _) (.cons (fun _ _ _ _ _ => trivial) .nil))))))))))))))))))))) (fun vs b hvl hvb => ?_)
          obtain ⟨x0, x1, x2, x3, x4, x5, x6, x7, x8, x9, x10, x11, x12, x13, x14, x15, x16, x17, x18, x19, rfl⟩ : ∃ x0 x1 x2 x3 x4 x5 x6 x7 x8 x9 x10 x11 x12 x13 x14 x15 x16 x17 x18 x19, vs = [x0, x1, x2, x3, x4, x5, x6, x7, x8, x9, x10, x11, x12, x13, x14, x15, x16, x17, x18, x19] := lst20 hvl
          clear hvl
          simp only [putAll, Act.put, List.setIfInBounds_toArray, List.set_cons_zero, List.set_cons_succ] at hvb
          subst hvb
          refine ⟨(.snoc (.snoc (.snoc (.snoc (.snoc (.snoc (.snoc (.snoc (.snoc (.snoc (.snoc (.snoc (.snoc (.snoc (.snoc (.snoc (.snoc (.snoc (.snoc (.snoc .zero (InvObIn.intro (d := (some 37)) (r := fun u _ => u = .slice (some ⟨G, 0, none⟩) k k) 0 0 rfl rfl rfl (by kernel_rfl) (by kernel_rfl) rfl ?io12x0)) (InvObIn.intro (d := (some 38)) (r := fun u _ => u = .pointer (some ⟨P, 0, none⟩)) 0 0 rfl rfl rfl (by kernel_rfl) (by kernel_rfl) rfl ?io12x1)) (InvObIn.intro (d := (some 39)) (r := fun u _ => u = .int .i64 (i : Int)) 0 0 rfl rfl rfl (by kernel_rfl) (by kernel_rfl) rfl ?io12x2)) (InvObIn.intro (d := (some 40)) (r := fun u _ => u = .slice (some ⟨G, 0, none⟩) k k) 0 1 rfl rfl rfl (by kernel_rfl) (by kernel_rfl) rfl ?io12x3)) (InvObIn.intro (d := (some 41)) (r := fun u _ => u = .pointer (some ⟨P, 1, none⟩)) 0 1 rfl rfl rfl (by kernel_rfl) (by kernel_rfl) rfl ?io12x4)) (InvObIn.intro (d := (some 42)) (r := fun u _ => u = .int .i64 (d : Int)) 0 1 rfl rfl rfl (by kernel_rfl) (by kernel_rfl) rfl ?io12x5)) (InvObIn.intro (d := (some 43)) (r := fun u _ => u = .slice (some ⟨G, 0, none⟩) k k) 0 0 rfl rfl rfl (by kernel_rfl) (by kernel_rfl) rfl ?io12x6)) (InvObIn.intro (d := (some 44)) (r := fun u _ => u = .pointer (some ⟨P, 1, none⟩)) 0 0 rfl rfl rfl (by kernel_rfl) (by kernel_rfl) rfl ?io12x7)) (InvObIn.intro (d := (some 45)) (r := fun u _ => u = .int .i64 (d : Int)) 0 0 rfl rfl rfl (by kernel_rfl) (by kernel_rfl) rfl ?io12x8)) (InvObIn.intro (d := (some 46)) (r := fun u _ => u = .pointer (some ⟨G, d, none⟩)) 0 0 rfl rfl rfl (by kernel_rfl) (by kernel_rfl) rfl ?io12x9)) (InvObIn.intro (d := (some 47)) (r := fun u _ => u = .int .i64 Ld) 0 0 rfl rfl rfl (by kernel_rfl) (by kernel_rfl) rfl ?io12x10)) (InvObIn.intro (d := (some 48)) (r := fun u _ => u = .slice (some ⟨G, 0, none⟩) k k) 0 0 rfl rfl rfl (by kernel_rfl) (by kernel_rfl) rfl ?io12x11)) (InvObIn.intro (d := (some 49)) (r := fun u _ => u = .pointer (some ⟨P, 0, none⟩)) 0 0 rfl rfl rfl (by kernel_rfl) (by kernel_rfl) rfl ?io12x12)) (InvObIn.intro (d := (some 50)) (r := fun u _ => u = .int .i64 (i : Int)) 0 0 rfl rfl rfl (by kernel_rfl) (by kernel_rfl) rfl ?io12x13)) (InvObIn.intro (d := (some 51)) (r := fun u _ => u = .pointer (some ⟨G, i, none⟩)) 0 0 rfl rfl rfl (by kernel_rfl) (by kernel_rfl) rfl ?io12x14)) (InvObIn.intro (d := (some 52)) (r := fun u _ => u = .int .i64 Li) 0 0 rfl rfl rfl (by kernel_rfl) (by kernel_rfl) rfl ?io12x15)) (InvObIn.intro (d := (some 53)) (r := fun u _ => u = .pointer (some ⟨G, i, none⟩)) 0 0 rfl rfl rfl (by kernel_rfl) (by kernel_rfl) rfl ?io12x16)) (InvObIn.put (d := none) (r := fun _ _ => True) 0 rfl rfl rfl (by kernel_rfl) (by kernel_rfl) rfl ?io12x17)) (InvObIn.intro (d := (some 54)) (r := fun u _ => u = .pointer (some ⟨G, d, none⟩)) 1 1 rfl rfl rfl (by kernel_rfl) (by kernel_rfl) rfl ?io12x18)) (InvObIn.put (d := none) (r := fun _ _ => True) 1 rfl rfl rfl (by kernel_rfl) (by kernel_rfl) rfl ?io12x19)), ?iend12⟩
          case io12x0 =>
            intro k1 w1 hk0 hk1 hb1 hS hd KK hK
            clear hd
            have h := hS.hdr
            rw [shuL_len, HLK.out] at h
            simp only [Act.put, List.setIfInBounds_toArray, List.set_cons_zero, List.set_cons_succ] at hK
            go_simp
            first | exact hK.out _ _ ⟨rfl, rfl, rfl, Nat.le_refl _, fun _ _ _ => rfl⟩ hS rfl | (have hk := hK.out _ _ ⟨rfl, rfl, rfl, Nat.le_refl _, fun _ _ _ => rfl⟩ hS rfl; revert hk; go_simp)
          case io12x1 =>
            intro k1 w1 hk0 hk1 hb1 hS hd KK hK
            clear hd
            simp only [Act.put, List.setIfInBounds_toArray, List.set_cons_zero, List.set_cons_succ] at hK
            go_simp
            first | exact hK.out _ _ ⟨rfl, rfl, rfl, Nat.le_refl _, fun _ _ _ => rfl⟩ hS rfl | (have hk := hK.out _ _ ⟨rfl, rfl, rfl, Nat.le_refl _, fun _ _ _ => rfl⟩ hS rfl; revert hk; go_simp)
          case io12x2 =>
            intro k1 w1 hk0 hk1 hb1 hS hd KK hK
            have d1 : x1 = .pointer (some ⟨P, 0, none⟩) := hd 1 (by kernel_rfl)
            clear hd
            subst d1
            have hp := (hb1.cell_far ⟨P, 0, none⟩ (by show P < _; omega) (by simp; omega)).trans HP0.out
            simp only [Act.put, List.setIfInBounds_toArray, List.set_cons_zero, List.set_cons_succ] at hK
            go_simp
            first | exact hK.out _ _ ⟨rfl, rfl, rfl, Nat.le_refl _, fun _ _ _ => rfl⟩ hS rfl | (have hk := hK.out _ _ ⟨rfl, rfl, rfl, Nat.le_refl _, fun _ _ _ => rfl⟩ hS rfl; revert hk; go_simp)
          case io12x3 =>
            intro k1 w1 hk0 hk1 hb1 hS hd KK hK
            clear hd
            have h := hS.hdr
            rw [shuL_len, HLK.out] at h
            simp only [Act.put, List.setIfInBounds_toArray, List.set_cons_zero, List.set_cons_succ] at hK
            go_simp
            first | exact hK.out _ _ ⟨rfl, rfl, rfl, Nat.le_refl _, fun _ _ _ => rfl⟩ hS rfl | (have hk := hK.out _ _ ⟨rfl, rfl, rfl, Nat.le_refl _, fun _ _ _ => rfl⟩ hS rfl; revert hk; go_simp)
          case io12x4 =>
            intro k1 w1 hk0 hk1 hb1 hS hd KK hK
            clear hd
            simp only [Act.put, List.setIfInBounds_toArray, List.set_cons_zero, List.set_cons_succ] at hK
            go_simp
            first | exact hK.out _ _ ⟨rfl, rfl, rfl, Nat.le_refl _, fun _ _ _ => rfl⟩ hS rfl | (have hk := hK.out _ _ ⟨rfl, rfl, rfl, Nat.le_refl _, fun _ _ _ => rfl⟩ hS rfl; revert hk; go_simp)
          case io12x5 =>
            intro k1 w1 hk0 hk1 hb1 hS hd KK hK
            have d4 : x4 = .pointer (some ⟨P, 1, none⟩) := hd 4 (by kernel_rfl)
            clear hd
            subst d4
            have hp := (hb1.cell_far ⟨P, 1, none⟩ (by show P < _; omega) (by simp; omega)).trans HP1.out
            simp only [Act.put, List.setIfInBounds_toArray, List.set_cons_zero, List.set_cons_succ] at hK
            go_simp
            first | exact hK.out _ _ ⟨rfl, rfl, rfl, Nat.le_refl _, fun _ _ _ => rfl⟩ hS rfl | (have hk := hK.out _ _ ⟨rfl, rfl, rfl, Nat.le_refl _, fun _ _ _ => rfl⟩ hS rfl; revert hk; go_simp)
          case io12x6 =>
            intro k1 w1 hk0 hk1 hb1 hS hd KK hK
            clear hd
            have h := hS.hdr
            rw [shuL_len, HLK.out] at h
            simp only [Act.put, List.setIfInBounds_toArray, List.set_cons_zero, List.set_cons_succ] at hK
            go_simp
            first | exact hK.out _ _ ⟨rfl, rfl, rfl, Nat.le_refl _, fun _ _ _ => rfl⟩ hS rfl | (have hk := hK.out _ _ ⟨rfl, rfl, rfl, Nat.le_refl _, fun _ _ _ => rfl⟩ hS rfl; revert hk; go_simp)
          case io12x7 =>
            intro k1 w1 hk0 hk1 hb1 hS hd KK hK
            clear hd
            simp only [Act.put, List.setIfInBounds_toArray, List.set_cons_zero, List.set_cons_succ] at hK
            go_simp
            first | exact hK.out _ _ ⟨rfl, rfl, rfl, Nat.le_refl _, fun _ _ _ => rfl⟩ hS rfl | (have hk := hK.out _ _ ⟨rfl, rfl, rfl, Nat.le_refl _, fun _ _ _ => rfl⟩ hS rfl; revert hk; go_simp)
          case io12x8 =>
            intro k1 w1 hk0 hk1 hb1 hS hd KK hK
            have d7 : x7 = .pointer (some ⟨P, 1, none⟩) := hd 7 (by kernel_rfl)
            clear hd
            subst d7
            have hp := (hb1.cell_far ⟨P, 1, none⟩ (by show P < _; omega) (by simp; omega)).trans HP1.out
            simp only [Act.put, List.setIfInBounds_toArray, List.set_cons_zero, List.set_cons_succ] at hK
            go_simp
            first | exact hK.out _ _ ⟨rfl, rfl, rfl, Nat.le_refl _, fun _ _ _ => rfl⟩ hS rfl | (have hk := hK.out _ _ ⟨rfl, rfl, rfl, Nat.le_refl _, fun _ _ _ => rfl⟩ hS rfl; revert hk; go_simp)
          case io12x9 =>
            intro k1 w1 hk0 hk1 hb1 hS hd KK hK
            have d6 : x6 = .slice (some ⟨G, 0, none⟩) k k := hd 6 (by kernel_rfl)
            have d8 : x8 = .int .i64 (d : Int) := hd 8 (by kernel_rfl)
            clear hd
            subst d6
            subst d8
            simp only [Act.put, List.setIfInBounds_toArray, List.set_cons_zero, List.set_cons_succ] at hK
            go_simp
            first | exact hK.out _ _ ⟨rfl, rfl, rfl, Nat.le_refl _, fun _ _ _ => rfl⟩ hS rfl | (have hk := hK.out _ _ ⟨rfl, rfl, rfl, Nat.le_refl _, fun _ _ _ => rfl⟩ hS rfl; revert hk; go_simp)
          case io12x10 =>
            intro k1 w1 hk0 hk1 hb1 hS hd KK hK
            have d9 : x9 = .pointer (some ⟨G, d, none⟩) := hd 9 (by kernel_rfl)
            clear hd
            subst d9
            obtain rfl : k1 = 0 := by omega
            have hp := (hS.at (j := d) (by rw [shuL_len, HLK.out]; omega)).1
            simp only [shuL] at hp
            rw [HLd.out] at hp
            simp only [Act.put, List.setIfInBounds_toArray, List.set_cons_zero, List.set_cons_succ] at hK
            go_simp
            first | exact hK.out _ _ ⟨rfl, rfl, rfl, Nat.le_refl _, fun _ _ _ => rfl⟩ hS rfl | (have hk := hK.out _ _ ⟨rfl, rfl, rfl, Nat.le_refl _, fun _ _ _ => rfl⟩ hS rfl; revert hk; go_simp)
          case io12x11 =>
            intro k1 w1 hk0 hk1 hb1 hS hd KK hK
            clear hd
            have h := hS.hdr
            rw [shuL_len, HLK.out] at h
            simp only [Act.put, List.setIfInBounds_toArray, List.set_cons_zero, List.set_cons_succ] at hK
            go_simp
            first | exact hK.out _ _ ⟨rfl, rfl, rfl, Nat.le_refl _, fun _ _ _ => rfl⟩ hS rfl | (have hk := hK.out _ _ ⟨rfl, rfl, rfl, Nat.le_refl _, fun _ _ _ => rfl⟩ hS rfl; revert hk; go_simp)
          case io12x12 =>
            intro k1 w1 hk0 hk1 hb1 hS hd KK hK
            clear hd
            simp only [Act.put, List.setIfInBounds_toArray, List.set_cons_zero, List.set_cons_succ] at hK
            go_simp
            first | exact hK.out _ _ ⟨rfl, rfl, rfl, Nat.le_refl _, fun _ _ _ => rfl⟩ hS rfl | (have hk := hK.out _ _ ⟨rfl, rfl, rfl, Nat.le_refl _, fun _ _ _ => rfl⟩ hS rfl; revert hk; go_simp)
          case io12x13 =>
            intro k1 w1 hk0 hk1 hb1 hS hd KK hK
            have d12 : x12 = .pointer (some ⟨P, 0, none⟩) := hd 12 (by kernel_rfl)
            clear hd
            subst d12
            have hp := (hb1.cell_far ⟨P, 0, none⟩ (by show P < _; omega) (by simp; omega)).trans HP0.out
            simp only [Act.put, List.setIfInBounds_toArray, List.set_cons_zero, List.set_cons_succ] at hK
            go_simp
            first | exact hK.out _ _ ⟨rfl, rfl, rfl, Nat.le_refl _, fun _ _ _ => rfl⟩ hS rfl | (have hk := hK.out _ _ ⟨rfl, rfl, rfl, Nat.le_refl _, fun _ _ _ => rfl⟩ hS rfl; revert hk; go_simp)
          case io12x14 =>
            intro k1 w1 hk0 hk1 hb1 hS hd KK hK
            have d11 : x11 = .slice (some ⟨G, 0, none⟩) k k := hd 11 (by kernel_rfl)
            have d13 : x13 = .int .i64 (i : Int) := hd 13 (by kernel_rfl)
            clear hd
            subst d11
            subst d13
            simp only [Act.put, List.setIfInBounds_toArray, List.set_cons_zero, List.set_cons_succ] at hK
            go_simp
            first | exact hK.out _ _ ⟨rfl, rfl, rfl, Nat.le_refl _, fun _ _ _ => rfl⟩ hS rfl | (have hk := hK.out _ _ ⟨rfl, rfl, rfl, Nat.le_refl _, fun _ _ _ => rfl⟩ hS rfl; revert hk; go_simp)
          case io12x15 =>
            intro k1 w1 hk0 hk1 hb1 hS hd KK hK
            have d14 : x14 = .pointer (some ⟨G, i, none⟩) := hd 14 (by kernel_rfl)
            clear hd
            subst d14
            obtain rfl : k1 = 0 := by omega
            have hp := (hS.at (j := i) (by rw [shuL_len, HLK.out]; omega)).1
            simp only [shuL] at hp
            rw [HLi.out] at hp
            simp only [Act.put, List.setIfInBounds_toArray, List.set_cons_zero, List.set_cons_succ] at hK
            go_simp
            first | exact hK.out _ _ ⟨rfl, rfl, rfl, Nat.le_refl _, fun _ _ _ => rfl⟩ hS rfl | (have hk := hK.out _ _ ⟨rfl, rfl, rfl, Nat.le_refl _, fun _ _ _ => rfl⟩ hS rfl; revert hk; go_simp)
          case io12x16 =>
            intro k1 w1 hk0 hk1 hb1 hS hd KK hK
            have d0 : x0 = .slice (some ⟨G, 0, none⟩) k k := hd 0 (by kernel_rfl)
            have d1 : x1 = .pointer (some ⟨P, 0, none⟩) := hd 1 (by kernel_rfl)
            have d2 : x2 = .int .i64 (i : Int) := hd 2 (by kernel_rfl)
            have d6 : x6 = .slice (some ⟨G, 0, none⟩) k k := hd 6 (by kernel_rfl)
            have d7 : x7 = .pointer (some ⟨P, 1, none⟩) := hd 7 (by kernel_rfl)
            have d8 : x8 = .int .i64 (d : Int) := hd 8 (by kernel_rfl)
            have d9 : x9 = .pointer (some ⟨G, d, none⟩) := hd 9 (by kernel_rfl)
            have d10 : x10 = .int .i64 Ld := hd 10 (by kernel_rfl)
            have d15 : x15 = .int .i64 Li := hd 15 (by kernel_rfl)
            clear hd
            subst d0
            subst d1
            subst d2
            subst d6
            subst d7
            subst d8
            subst d9
            subst d10
            subst d15
            simp only [Act.put, List.setIfInBounds_toArray, List.set_cons_zero, List.set_cons_succ] at hK
            go_simp
            first | exact hK.out _ _ ⟨rfl, rfl, rfl, Nat.le_refl _, fun _ _ _ => rfl⟩ hS rfl | (have hk := hK.out _ _ ⟨rfl, rfl, rfl, Nat.le_refl _, fun _ _ _ => rfl⟩ hS rfl; revert hk; go_simp)
          case io12x17 =>
            intro w1 hb1 hS hd KK hK
            have d0 : x0 = .slice (some ⟨G, 0, none⟩) k k := hd 0 (by kernel_rfl)
            have d1 : x1 = .pointer (some ⟨P, 0, none⟩) := hd 1 (by kernel_rfl)
            have d2 : x2 = .int .i64 (i : Int) := hd 2 (by kernel_rfl)
            have d6 : x6 = .slice (some ⟨G, 0, none⟩) k k := hd 6 (by kernel_rfl)
            have d7 : x7 = .pointer (some ⟨P, 1, none⟩) := hd 7 (by kernel_rfl)
            have d8 : x8 = .int .i64 (d : Int) := hd 8 (by kernel_rfl)
            have d9 : x9 = .pointer (some ⟨G, d, none⟩) := hd 9 (by kernel_rfl)
            have d10 : x10 = .int .i64 Ld := hd 10 (by kernel_rfl)
            have d15 : x15 = .int .i64 Li := hd 15 (by kernel_rfl)
            have d16 : x16 = .pointer (some ⟨G, i, none⟩) := hd 16 (by kernel_rfl)
            clear hd
            subst d0
            subst d1
            subst d2
            subst d6
            subst d7
            subst d8
            subst d9
            subst d10
            subst d15
            subst d16
            obtain ⟨hp, hf⟩ := hS.at (j := i) (by rw [shuL_len, HLK.out]; omega)
            simp only [Act.put, List.setIfInBounds_toArray, List.set_cons_zero, List.set_cons_succ] at hK
            go_simp
            first | exact hK.out undef _ (Go.Lib.grownBy_setCell _ _ _ _) (hS.put i Ld) trivial | (have hk := hK.out undef _ (Go.Lib.grownBy_setCell _ _ _ _) (hS.put i Ld) trivial; revert hk; go_simp)
          case io12x18 =>
            intro k1 w1 hk0 hk1 hb1 hS hd KK hK
            have d0 : x0 = .slice (some ⟨G, 0, none⟩) k k := hd 0 (by kernel_rfl)
            have d1 : x1 = .pointer (some ⟨P, 0, none⟩) := hd 1 (by kernel_rfl)
            have d2 : x2 = .int .i64 (i : Int) := hd 2 (by kernel_rfl)
            have d3 : x3 = .slice (some ⟨G, 0, none⟩) k k := hd 3 (by kernel_rfl)
            have d4 : x4 = .pointer (some ⟨P, 1, none⟩) := hd 4 (by kernel_rfl)
            have d5 : x5 = .int .i64 (d : Int) := hd 5 (by kernel_rfl)
            have d6 : x6 = .slice (some ⟨G, 0, none⟩) k k := hd 6 (by kernel_rfl)
            have d7 : x7 = .pointer (some ⟨P, 1, none⟩) := hd 7 (by kernel_rfl)
            have d8 : x8 = .int .i64 (d : Int) := hd 8 (by kernel_rfl)
            have d9 : x9 = .pointer (some ⟨G, d, none⟩) := hd 9 (by kernel_rfl)
            have d10 : x10 = .int .i64 Ld := hd 10 (by kernel_rfl)
            have d11 : x11 = .slice (some ⟨G, 0, none⟩) k k := hd 11 (by kernel_rfl)
            have d12 : x12 = .pointer (some ⟨P, 0, none⟩) := hd 12 (by kernel_rfl)
            have d13 : x13 = .int .i64 (i : Int) := hd 13 (by kernel_rfl)
            have d14 : x14 = .pointer (some ⟨G, i, none⟩) := hd 14 (by kernel_rfl)
            have d15 : x15 = .int .i64 Li := hd 15 (by kernel_rfl)
            have d16 : x16 = .pointer (some ⟨G, i, none⟩) := hd 16 (by kernel_rfl)
            clear hd
            subst d0
            subst d1
            subst d2
            subst d3
            subst d4
            subst d5
            subst d6
            subst d7
            subst d8
            subst d9
            subst d10
            subst d11
            subst d12
            subst d13
            subst d14
            subst d15
            subst d16
            simp only [Act.put, List.setIfInBounds_toArray, List.set_cons_zero, List.set_cons_succ] at hK
            go_simp
            first | exact hK.out _ _ ⟨rfl, rfl, rfl, Nat.le_refl _, fun _ _ _ => rfl⟩ hS rfl | (have hk := hK.out _ _ ⟨rfl, rfl, rfl, Nat.le_refl _, fun _ _ _ => rfl⟩ hS rfl; revert hk; go_simp)
          case io12x19 =>
            intro w1 hb1 hS hd KK hK
            have d0 : x0 = .slice (some ⟨G, 0, none⟩) k k := hd 0 (by kernel_rfl)
            have d1 : x1 = .pointer (some ⟨P, 0, none⟩) := hd 1 (by kernel_rfl)
            have d2 : x2 = .int .i64 (i : Int) := hd 2 (by kernel_rfl)
            have d3 : x3 = .slice (some ⟨G, 0, none⟩) k k := hd 3 (by kernel_rfl)
            have d4 : x4 = .pointer (some ⟨P, 1, none⟩) := hd 4 (by kernel_rfl)
            have d5 : x5 = .int .i64 (d : Int) := hd 5 (by kernel_rfl)
            have d6 : x6 = .slice (some ⟨G, 0, none⟩) k k := hd 6 (by kernel_rfl)
            have d7 : x7 = .pointer (some ⟨P, 1, none⟩) := hd 7 (by kernel_rfl)
            have d8 : x8 = .int .i64 (d : Int) := hd 8 (by kernel_rfl)
            have d9 : x9 = .pointer (some ⟨G, d, none⟩) := hd 9 (by kernel_rfl)
            have d10 : x10 = .int .i64 Ld := hd 10 (by kernel_rfl)
            have d11 : x11 = .slice (some ⟨G, 0, none⟩) k k := hd 11 (by kernel_rfl)
            have d12 : x12 = .pointer (some ⟨P, 0, none⟩) := hd 12 (by kernel_rfl)
            have d13 : x13 = .int .i64 (i : Int) := hd 13 (by kernel_rfl)
            have d14 : x14 = .pointer (some ⟨G, i, none⟩) := hd 14 (by kernel_rfl)
            have d15 : x15 = .int .i64 Li := hd 15 (by kernel_rfl)
            have d16 : x16 = .pointer (some ⟨G, i, none⟩) := hd 16 (by kernel_rfl)
            have d18 : x18 = .pointer (some ⟨G, d, none⟩) := hd 18 (by kernel_rfl)
            clear hd
            subst d0
            subst d1
            subst d2
            subst d3
            subst d4
            subst d5
            subst d6
            subst d7
            subst d8
            subst d9
            subst d10
            subst d11
            subst d12
            subst d13
            subst d14
            subst d15
            subst d16
            subst d18
            obtain ⟨hp, hf⟩ := hS.at (j := d) (by rw [shuL_len, HLK.out]; omega)
            simp only [Act.put, List.setIfInBounds_toArray, List.set_cons_zero, List.set_cons_succ] at hK
            go_simp
            first | exact hK.out undef _ (Go.Lib.grownBy_setCell _ _ _ _) (hS.put d Li) trivial | (have hk := hK.out undef _ (Go.Lib.grownBy_setCell _ _ _ _) (hS.put d Li) trivial; revert hk; go_simp)
          case iend12 =>
            intro w1 hb1 hS hR
            have d0 : x0 = .slice (some ⟨G, 0, none⟩) k k := hR 0 (by decide)
            have d1 : x1 = .pointer (some ⟨P, 0, none⟩) := hR 1 (by decide)
            have d2 : x2 = .int .i64 (i : Int) := hR 2 (by decide)
            have d3 : x3 = .slice (some ⟨G, 0, none⟩) k k := hR 3 (by decide)
            have d4 : x4 = .pointer (some ⟨P, 1, none⟩) := hR 4 (by decide)
            have d5 : x5 = .int .i64 (d : Int) := hR 5 (by decide)
            have d6 : x6 = .slice (some ⟨G, 0, none⟩) k k := hR 6 (by decide)
            have d7 : x7 = .pointer (some ⟨P, 1, none⟩) := hR 7 (by decide)
            have d8 : x8 = .int .i64 (d : Int) := hR 8 (by decide)
            have d9 : x9 = .pointer (some ⟨G, d, none⟩) := hR 9 (by decide)
            have d10 : x10 = .int .i64 Ld := hR 10 (by decide)
            have d11 : x11 = .slice (some ⟨G, 0, none⟩) k k := hR 11 (by decide)
            have d12 : x12 = .pointer (some ⟨P, 0, none⟩) := hR 12 (by decide)
            have d13 : x13 = .int .i64 (i : Int) := hR 13 (by decide)
            have d14 : x14 = .pointer (some ⟨G, i, none⟩) := hR 14 (by decide)
            have d15 : x15 = .int .i64 Li := hR 15 (by decide)
            have d16 : x16 = .pointer (some ⟨G, i, none⟩) := hR 16 (by decide)
            have d18 : x18 = .pointer (some ⟨G, d, none⟩) := hR 18 (by decide)
            clear hR
            subst d0
            subst d1
            subst d2
            subst d3
            subst d4
            subst d5
            subst d6
            subst d7
            subst d8
            subst d9
            subst d10
            subst d11
            subst d12
            subst d13
            subst d14
            subst d15
            subst d16
            subst d18
            try simp only [putAll, Act.put, List.setIfInBounds_toArray, List.set_cons_zero, List.set_cons_succ]
            have HQ := Lib.hid (HRR.out _ hS hb1)
            have hnb := HNB.out.grown hb1 (by omega) (by simp; omega)
            have hbb := hS.box
            clear hS hb1
            obtain ⟨n0, n1, n2, n3, n4, _, _, _, _, _⟩ := hnb
            obtain ⟨b0, b1, b2, b3, b4, f0, f1, f2, f3, f4⟩ := hbb
            (repeat gi_step)
            obtain ⟨r1, r2⟩ := HQ.out
            have r3 := r2 _ rfl
            rw [← HSW.out] at r3
            first | exact ⟨r1, rfl, r3⟩ | exact ⟨r1, trivial, r3⟩
      case hdone =>
        rintro W2 o _ ⟨hd2, hsz2, a9, c9, hSA⟩
        have hgO := grownBy_putObj' W2 (T + 2 + 1) o
        have HS3 := Lib.hid (hSA.grown hgO (fun r e => by injection e; omega))
        have HD3 := Lib.hid ((hgO.block _ (by omega) (by simp)).trans hd2)
        have hsz3 := hgO.size
        generalize W2.putObj (T + 2 + 1) o = W3 at *
        clear hSA hd2 hgO
        have HL : Hid ((lst N xs s N).length = k) := Lib.hid (by rw [lst_len]; exact HM.out)
        obtain ⟨L, hL⟩ : ∃ L, lst N xs s N = L := ⟨_, rfl⟩
        obtain ⟨X, hX⟩ : ∃ X, (tur N xs s N).1 = X := ⟨_, rfl⟩
        obtain ⟨S, hS⟩ : ∃ X, (tur N xs s N).2 = X := ⟨_, rfl⟩
        rw [hL] at HS3 HL
        rw [hX, hS] at HS3 HOWN
        have HLE := Lib.hid hL
        have HXE := Lib.hid hX
        have HSE := Lib.hid hS
        clear hL hX hS HWA HWB HWN HI HS HB0
        have HH := HS3.out.hdr
        rw [HL.out] at HH
        have HHd := Lib.hid HH
        have HBX := Lib.hid HS3.out.box
        have HRS := Lib.hid HS3.out.res
        have hord := HS3.out.ord
        obtain ⟨_, _, p3, p4, p5⟩ := hord
        have HI3 : Hid (∀ w1, Below W3.heap.size W3 w1 → Ints .u64 w1 w1.heap.size a9 X) := Lib.hid (fun w1 hb => (HS3.out.script.below hb (by omega)).mono (by have := hb.size; omega))
        clear HH
        go_upto_region 14 with fail
        refine wp_region_parts2 (w := W3) 4 2 none [] [(fun u _ => u = .slice (some ⟨G, 0, none⟩) k k), (fun u _ => u = .agg #[.slice a9 X.length c9, .int .u64 (S.a : Nat), .int .u64 (S.b : Nat), .int .u64 (S.c : Nat), .int .u64 (S.d : Nat)]), ((IsGen W3.heap.size X S)), (fun u _ => u = .slice (some ⟨G, 0, none⟩) k k)] [some 56, some 57, some 58, some 4, none, some 6] #[true, true, true, true, false, false] #[true, true, true, true, false, false] (by kernel_rfl) rfl (by kernel_rfl) (by kernel_rfl) rfl (by kernel_rfl) (by kernel_rfl) (.cons (carries_eq _) (.cons (carries_eq _) (.cons (isGen_carries _ _ _) (.cons (carries_eq _) .nil)))) (fun vs b hvl hvb => ?_)
        obtain ⟨x0, x1, x2, x3, x4, x5, rfl⟩ : ∃ x0 x1 x2 x3 x4 x5, vs = [x0, x1, x2, x3, x4, x5] := lst6 hvl
        clear hvl
        simp only [putAll, Act.put, List.setIfInBounds_toArray, List.set_cons_zero, List.set_cons_succ] at hvb
        subst hvb
        refine ⟨(.snoc (.snoc (.snoc (.snoc .zero (PartOb.intro (d := (some 56)) (r := fun u _ => u = .slice (some ⟨G, 0, none⟩) k k) rfl rfl rfl rfl ?po14x0)) (PartOb.intro (d := (some 57)) (r := fun u _ => u = .agg #[.slice a9 X.length c9, .int .u64 (S.a : Nat), .int .u64 (S.b : Nat), .int .u64 (S.c : Nat), .int .u64 (S.d : Nat)]) rfl rfl rfl rfl ?po14x1)) (PartOb.intro (d := (some 58)) (r := (IsGen W3.heap.size X S)) rfl rfl rfl rfl ?po14x2)) (PartOb.intro (d := (some 4)) (r := fun u _ => u = .slice (some ⟨G, 0, none⟩) k k) rfl rfl rfl rfl ?po14x3)), ?pend14, ?pfl14⟩
        case po14x0 =>
          intro w1 hb1 hd KK hK
          clear hd
          have h := cellOf hb1 HHd.out (by show G + 1 < _; omega)
          simp only [Act.put, List.setIfInBounds_toArray, List.set_cons_zero, List.set_cons_succ] at hK
          go_simp
          first | exact hK.out _ _ (Below.refl _ _) rfl | (have hk := hK.out _ _ (Below.refl _ _) rfl; revert hk; go_simp)
        case po14x1 =>
          intro w1 hb1 hd KK hK
          clear hd
          have hbx := HBX.out.below hb1 (by omega)
          obtain ⟨c0, c1, c2, c3, c4, _, _, _, _, _⟩ := hbx
          simp only [Act.put, List.setIfInBounds_toArray, List.set_cons_zero, List.set_cons_succ] at hK
          go_simp
          first | exact hK.out _ _ (Below.refl _ _) rfl | (have hk := hK.out _ _ (Below.refl _ _) rfl; revert hk; go_simp)
        case po14x2 =>
          intro w1 hb1 hd KK hK
          have d1 : x1 = .agg #[.slice a9 X.length c9, .int .u64 (S.a : Nat), .int .u64 (S.b : Nat), .int .u64 (S.c : Nat), .int .u64 (S.d : Nat)] := hd 1 (by kernel_rfl)
          clear hd
          subst d1
          simp only [Act.put, List.setIfInBounds_toArray, List.set_cons_zero, List.set_cons_succ] at hK
          go_simp
          go_at_call 90
          refine (HOWN _ _ _ (HI3.out _ hb1)).out.mono ?_
          rintro e w2 ⟨a2, c2, rfl, hown, hb2⟩
          (try go_wp2_with fail)
          first | exact hK.out _ _ hb2 ⟨a2, c2, w1.heap.size, rfl, hb1.size, hown⟩ | (have hk := hK.out _ _ hb2 ⟨a2, c2, w1.heap.size, rfl, hb1.size, hown⟩; revert hk; go_simp)
        case po14x3 =>
          intro w1 hb1 hd KK hK
          have d0 : x0 = .slice (some ⟨G, 0, none⟩) k k := hd 0 (by kernel_rfl)
          have d2 : (IsGen W3.heap.size X S) x2 w1 := hd 2 (by kernel_rfl)
          clear hd
          subst d0
          obtain ⟨a2, c2, b2, rfl, hb2, hown⟩ := d2
          simp only [Act.put, List.setIfInBounds_toArray, List.set_cons_zero, List.set_cons_succ] at hK
          go_simp
          first | exact hK.out _ _ (Below.refl _ _) rfl | (have hk := hK.out _ _ (Below.refl _ _) rfl; revert hk; go_simp)
        case pfl14 => (intro f hf; cases hf)
        case pend14 =>
        intro w1 hb1 hR hD
        have d0 : x0 = .slice (some ⟨G, 0, none⟩) k k := hR 0 (by decide)
        have d1 : x1 = .agg #[.slice a9 X.length c9, .int .u64 (S.a : Nat), .int .u64 (S.b : Nat), .int .u64 (S.c : Nat), .int .u64 (S.d : Nat)] := hR 1 (by decide)
        have d2 : (IsGen W3.heap.size X S) x2 w1 := hR 2 (by decide)
        have d3 : x3 = .slice (some ⟨G, 0, none⟩) k k := hR 3 (by decide)
        clear hR hD
        subst d0
        subst d1
        obtain ⟨a2, c2, b2, rfl, hb2, hown⟩ := d2
        subst d3
        refine wpAny_ready (rs := [4]) (by kernel_rfl) (by simp) (AllReady.cons rfl (fun KK hK => ?_) AllReady.nil)
        have hrs := HRS.out.below hb1 (by omega)
        have HRX := Lib.hid hrs
        obtain ⟨q0, q1, q2, q3, q4, f0, f1, f2, f3, f4⟩ := hrs
        go_simp
        refine hK _ _ ?_
        clear hK KK
        try simp only [putAll, Act.put, List.setIfInBounds_toArray, List.set_cons_zero, List.set_cons_succ]
        refine wpAny_ready (rs := [5]) (by kernel_rfl) (by simp) (AllReady.cons rfl (fun KK hK => ?_) AllReady.nil)
        go_simp
        refine hK _ _ ?_
        clear hK KK
        try simp only [putAll, Act.put, List.setIfInBounds_toArray, List.set_cons_zero, List.set_cons_succ]
        refine wpAny_done (by kernel_rfl) ?_ _
        go_wp2
        have hg1 := grown_set5 w1 (w.heap.size + 1) (.slice a2 X.length c2) (.int .u64 (S.a : Nat)) (.int .u64 (S.b : Nat)) (.int .u64 (S.c : Nat)) (.int .u64 (S.d : Nat))
        have s1 := hb1.size
        have s2 := hg1.size
        have hUb := HRX.out.set (.slice a2 X.length c2) (.int .u64 (S.a : Nat)) (.int .u64 (S.b : Nat)) (.int .u64 (S.c : Nat)) (.int .u64 (S.d : Nat))
        have hdU := (hg1.block (T + 2) (by omega) (by simp; omega)).trans ((hb1.block _ (by omega)).trans HD3.out)
        have hrow0 := HS3.out.row
        rw [HL.out] at hrow0
        have hrow1 := own_below hrow0 hb1 (Nat.le_refl _)
        have hrow2 := hrow1.kept hg1 (.inr (by simp [Value.ownBlock]; omega))
        have hgen2 := row_kept hown hg1 (by omega)
        have hbel2 := below_grown (below_grown HS3.out.bel (by omega) (grown_below (b := T) hb1 (Nat.le_refl _)) (fun r e => by injection e; omega)) (by omega) hg1 (fun r e => by injection e; omega)
        obtain ⟨U, hU⟩ : ∃ U, (set5 w1 (w.heap.size + 1) (.slice a2 X.length c2) (.int .u64 (S.a : Nat)) (.int .u64 (S.b : Nat)) (.int .u64 (S.c : Nat)) (.int .u64 (S.d : Nat))) = U := ⟨_, rfl⟩
        rw [hU] at hUb hdU hrow2 hgen2 hbel2 s2
        simp only [set5] at hU
        rw [hU]
        refine ⟨by simp, .inl ⟨_, _, rfl, run_takeDeferred hdU, ?_⟩⟩
        have hgD := grownBy_putObj' U (T + 2) (.deferred none)
        have hU2 := hUb.grown hgD (by omega) (by simp; omega)
        have hrow3 := hrow2.kept hgD (.inr (by simp [Value.ownBlock]; omega))
        have hgen3 := ownsRow_putObj hgen2 (.deferred none) hdU rfl
        have hbel3 := below_grown hbel2 (by omega) hgD (fun r e => by injection e; omega)
        generalize U.putObj (T + 2) (.deferred none) = U2 at *
        obtain ⟨u0, u1, u2, u3, u4, _, _, _, _, _⟩ := hU2
        have hpost : RetShuf w L X S 0 (.returned (.tuple #[.slice (some ⟨G, 0, none⟩) k k, .agg #[.slice a2 X.length c2, .int .u64 (S.a : Nat), .int .u64 (S.b : Nat), .int .u64 (S.c : Nat), .int .u64 (S.d : Nat)], .int .i64 0])) U2 := ⟨some ⟨G, 0, none⟩, k, a2, c2, b2, by rw [HL.out], by rw [HL.out]; exact hrow3, hgen3, by omega, by intro g hg; simp [Value.ownBlock] at hg; omega, hbel3⟩
        rw [← HLE.out, ← HXE.out, ← HSE.out] at hpost
        skip
        refine ⟨_, ?_, hpost⟩
        rw [results_tct rfl]
        rw [HXE.out, HSE.out]
        go_simp
end Go.Proofs.Ytiejkdnkdmanmaa
