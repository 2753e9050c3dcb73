/- Layer 10's argument in memory, and out of the reading of a list. -/
import Derived.Test.YtjjgmdnmhfoacaaMEnv
import Derived.Test.YtjjgmdnmhfoacaaMLawP
set_option linter.unusedVariables false
set_option linter.unusedSimpArgs false
namespace Go.Proofs.Ytjjgmdnmhfoacaa
open Go.ChangeShapes Go.WideShapes Go.RowKit Go.Rt

/-- An element of layer 10's statements: two tensors, a number. -/
structure TwoAt (w : World) (hi b o : Nat) (p q : TenV) (f : Int) : Prop where
  lt : b < hi
  c0 : w.cell? ⟨b, o, none⟩ = some (.slice p.a p.xs.length p.c)
  c1 : w.cell? ⟨b, o + 1, none⟩ = some (.slice p.b p.ys.length p.d)
  c2 : w.cell? ⟨b, o + 2, none⟩ = some (.slice q.a q.xs.length q.c)
  c3 : w.cell? ⟨b, o + 3, none⟩ = some (.slice q.b q.ys.length q.d)
  c4 : w.cell? ⟨b, o + 4, none⟩ = some (.int .i64 f)
  tA : Ten w hi p.a p.c p.b p.d p.xs p.ys
  tB : Ten w hi q.a q.c q.b q.d q.xs q.ys
  f0 : -9223372036854775808 ≤ f
  f1 : f ≤ 9223372036854775807
theorem TwoAt.below {w w' : World} {hi b o : Nat} {p q : TenV} {f : Int} (h : TwoAt w hi b o p q f) (hb : Below hi w w') : TwoAt w' hi b o p q f :=
  ⟨h.lt, (hb.cell (p := ⟨b, o, none⟩) h.lt).trans h.c0, (hb.cell (p := ⟨b, o + 1, none⟩) h.lt).trans h.c1, (hb.cell (p := ⟨b, o + 2, none⟩) h.lt).trans h.c2, (hb.cell (p := ⟨b, o + 3, none⟩) h.lt).trans h.c3,
   (hb.cell (p := ⟨b, o + 4, none⟩) h.lt).trans h.c4, h.tA.below hb (Nat.le_refl _), h.tB.below hb (Nat.le_refl _), h.f0, h.f1⟩
/-- The argument of layer 10's statements. -/
structure TwosAt (w : World) (hi : Nat) (a : Option Addr) (n : Nat) : Prop where
  len : n ≤ 9223372036854775807
  at_ : ∀ i, i < n → ∃ b off p q f, a = some ⟨b, off, none⟩ ∧ TwoAt w hi b (off + i * 5) p q f

theorem own1 : ownKnob Try.prog.godebug = none := by kernel_rfl
theorem laidOut1 : laidOutB Try.prog = true := by kernel_rfl
theorem cellsI1 : Try.prog.cellsOf 2 = 1 := by kernel_rfl
theorem cellsN1 : Try.prog.cellsOf 3 = 1 := by kernel_rfl
theorem cellsSl1 : Try.prog.cellsOf 23 = 1 := by kernel_rfl
theorem cellsSl2 : Try.prog.cellsOf 24 = 1 := by kernel_rfl
theorem cellsT1 : Try.prog.cellsOf 26 = 2 := by kernel_rfl
theorem cellsTwo1 : Try.prog.cellsOf 28 = 5 := by kernel_rfl

theorem list5 {α : Type} {cs : List α} (h : cs.length = 5) : ∃ a b c d e, cs = [a, b, c, d, e] := by
  match cs, h with
  | [a, b, c, d, e], _ => exact ⟨a, b, c, d, e, rfl⟩

theorem ten_of_trod {H : Type} {enc : TypeId × Value → H} {W : World} {spare : Nat → Bool} {held : Bool} {fuel : Nat} {v0 v1 : Value} {x : DataW H × List MemPlace}
    (h : DataW.trod enc Try.prog W 0 spare held fuel 26 [v0, v1] = some x) : ∃ p : TenV, v0 = .slice p.a p.xs.length p.c ∧ v1 = .slice p.b p.ys.length p.d ∧ Ten W W.heap.size p.a p.c p.b p.d p.xs p.ys := by
  obtain ⟨n0, y0, u0, hu0, ht0⟩ := trod_field1 Try.underlying26 h 0 _ rfl cellsSl1 (by show 0 < 2; omega)
  obtain ⟨n1, y1, u1, hu1, ht1⟩ := trod_field1 Try.underlying26 h 1 _ rfl cellsSl2 (by show 1 < 2; omega)
  have e0 : v0 = u0 := by simpa using hu0
  have e1 : v1 = u1 := by simpa using hu1
  subst e0; subst e1
  obtain ⟨a, xs, c, rfl, hI, hc, hc2⟩ := trod_ints_cap Try.underlying23 Try.underlying3 cellsN1 ht0
  obtain ⟨b, ys, d, rfl, hI2, hd, hd2⟩ := trod_ints_cap Try.underlying24 Try.underlying2 cellsI1 ht1
  exact ⟨⟨a, c, b, d, xs, ys⟩, rfl, rfl, hI, hI2, hc, hc2, hd, hd2⟩

theorem twos_of_trod {H : Type} {enc : TypeId × Value → H} {W : World} {spare : Nat → Bool} {held : Bool} {a : Option Addr} {n c : Nat} {d : DataW H} {ps : List MemPlace}
    (h : DataW.Trod enc Try.prog W 0 spare held 22 (.slice a n c) d ps) : TwosAt W W.heap.size a n := by
  obtain ⟨fuel, hf⟩ := h
  simp only [Value.cells] at hf
  obtain ⟨a', len, cap, he, hlen, hat⟩ := trod_elems Try.underlying22 (by rw [cellsTwo1]; omega) hf
  injection he with e1 e2 e3
  subst e1; subst e2; subst e3
  refine ⟨hlen, fun i hi => ?_⟩
  obtain ⟨b, off, cs, m, y, rfl, hb, hcl, hcell, hy⟩ := hat i hi
  rw [cellsTwo1] at hcl hcell
  obtain ⟨v0, v1, v2, v3, v4, rfl⟩ := list5 hcl
  obtain ⟨n0, y0, ht0⟩ := trod_field Try.underlying28 hy 0 _ rfl
  have q0 : (([v0, v1, v2, v3, v4].drop 0).take (Try.prog.cellsOf 26)) = [v0, v1] := by rw [cellsT1]; rfl
  have ht0' : DataW.trod enc Try.prog W 0 spare held n0 26 [v0, v1] = some y0 := by rw [← q0]; exact ht0
  obtain ⟨n1, y1, ht1⟩ := trod_field Try.underlying28 hy 1 _ rfl
  have q1 : (([v0, v1, v2, v3, v4].drop 2).take (Try.prog.cellsOf 26)) = [v2, v3] := by rw [cellsT1]; rfl
  have ht1' : DataW.trod enc Try.prog W 0 spare held n1 26 [v2, v3] = some y1 := by rw [← q1]; exact ht1
  obtain ⟨n2, y2, u4, hu4, ht4⟩ := trod_field1 Try.underlying28 hy 2 _ rfl cellsN1 (by show 4 < 5; omega)
  have e4 : v4 = u4 := by simpa using hu4
  subst e4
  obtain ⟨p, rfl, rfl, hA⟩ := ten_of_trod ht0'
  obtain ⟨q, rfl, rfl, hB⟩ := ten_of_trod ht1'
  obtain ⟨k, hk, _, wk⟩ := DataW.trod_int Try.underlying3 ht4
  simp at hk
  subst hk
  obtain ⟨k0, k1⟩ := wf_i64_iff.1 wk
  exact ⟨b, off, p, q, k, rfl, hb, (hcell 0 (by omega)), (hcell 1 (by omega)), (hcell 2 (by omega)), (hcell 3 (by omega)), (hcell 4 (by omega)), hA, hB, k0, k1⟩

theorem TEnv.cellN {B : Nat} {w0 W : World} {T : List TenV} {C : List (Addr × Value)} (h : TEnv B w0 W T C) (k : Nat) {a : Addr} {v : Value} (hk : C[k]? = some (a, v)) : W.cell? a = some v := h.cell (List.mem_of_getElem? hk)
theorem TEnv.ltN {B : Nat} {w0 W : World} {T : List TenV} {C : List (Addr × Value)} (h : TEnv B w0 W T C) (k : Nat) {a : Addr} {v : Value} (hk : C[k]? = some (a, v)) : a.block < W.heap.size := h.lt (List.mem_of_getElem? hk)
theorem TEnv.tenN {B : Nat} {w0 W : World} {T : List TenV} {C : List (Addr × Value)} (h : TEnv B w0 W T C) (k : Nat) {a b : Option Addr} {c d : Nat} {xs ys : List Int} (hk : T[k]? = some ⟨a, c, b, d, xs, ys⟩) : Ten W W.heap.size a c b d xs ys := h.ten (List.mem_of_getElem? hk)

/-- A list that is being rewritten in place: the first k words are told by f. -/
def mixL (f : Nat → Int) (ys : List Int) (k : Nat) : List Int := (List.range ys.length).map fun j => if j < k then f j else ys[j]?.getD 0
theorem mixL_len (f : Nat → Int) (ys : List Int) (k : Nat) : (mixL f ys k).length = ys.length := by simp [mixL]
theorem mixL_zero (f : Nat → Int) (ys : List Int) : mixL f ys 0 = ys := by
  apply List.ext_getElem
  · simp [mixL]
  · intro i h1 h2
    simp [mixL, List.getElem?_eq_getElem h2]
theorem mixL_full (f : Nat → Int) (ys : List Int) : mixL f ys ys.length = (List.range ys.length).map f := by
  apply List.ext_getElem
  · simp [mixL]
  · intro i h1 h2
    simp [mixL] at h1 ⊢
    omega
theorem mixL_get (f : Nat → Int) (ys : List Int) (k : Nat) (hk : k < ys.length) : (mixL f ys k)[k]?.getD 0 = ys[k]?.getD 0 := by
  simp [mixL, hk]
theorem mixL_set (f : Nat → Int) (ys : List Int) (k : Nat) : (mixL f ys k).set k (f k) = mixL f ys (k + 1) := by
  apply List.ext_getElem
  · simp [mixL]
  · intro i h1 h2
    rw [List.getElem_set]
    simp [mixL] at h1 ⊢
    by_cases h : k = i
    · subst h
      simp
    · rw [if_neg h]
      by_cases h3 : i < k
      · rw [if_pos h3, if_pos (by omega)]
      · rw [if_neg h3, if_neg (by omega)]
theorem map_range_get (ys : List Int) (f : Int → Int) : ((List.range ys.length).map fun j => f (ys[j]?.getD 0)) = ys.map f := by
  apply List.ext_getElem
  · simp
  · intro i h1 h2
    have : i < ys.length := by simpa using h2
    simp [this]

/-- A tensor of the call's own, in a variable of its own: it may be rewritten in place. -/
theorem fill_start {w : World} {m c d : Nat} {a b : Option Addr} {xs ys : List Int} (hO : w.ownsRow m 2 1 (.slice b ys.length d) ys.length (ys.map (Value.int .i64))) (h1 : 1 ≤ ys.length) (t : TypeId) :
    ∃ g, b = some ⟨g, 0, none⟩ ∧ m ≤ g ∧ w.heap.size ≠ g ∧ Fill (w.alloc (.cells #[.slice a xs.length c, .slice b ys.length d] t)) (w.alloc (.cells #[.slice a xs.length c, .slice b ys.length d] t)) m w.heap.size g d ys.length (.slice a xs.length c) (.slice b ys.length d) ys := by
  obtain ⟨aa, cc, he, hh⟩ := own_shape hO
  rcases hh with hh | ⟨g, hg, h2, h3⟩
  · omega
  · cases he
    subst hg
    exact ⟨g, rfl, h2, by omega, Nat.le_refl _, Below.refl _ _, hO.alloc _, box2_new _ _ _ _⟩

theorem make_words (n : Nat) (hn : n ≤ 17592186044416) (w : World) : (Instr.makeSlice 24 (.int .i64 (n : Int)) (.int .i64 (n : Int))).run Try.prog w = .ok (.slice (some ⟨w.heap.size, 0, none⟩) n n) (w.alloc (.cells (madeCells #[Value.int .i64 0] n) 2)) := by
  obtain ⟨i, hi, hz0, hz1, hz2⟩ := info_parts infoI64
  have hr := run_make (P := Try.prog) w 24 2 i (.int .i64 0) Try.underlying24 hi hz0 .i64 .i64 n n (by omega) (Int.le_refl _) (by rw [hz2]; omega) (by omega)
  simp only [Int.toNat_natCast, hz1, Nat.mul_one, Value.cells] at hr
  exact hr

/-- A new tensor of noughts, in a variable of its own. -/
def NoneOK (B : Nat) (w0 : World) (T : List TenV) (C : List (Addr × Value)) (a : Option Addr) (c n : Nat) (xs : List Int) (s : Value) (W : World) : Prop :=
  ∃ q g : Nat, s = .pointer (some ⟨q, 0, none⟩) ∧ TEnv B w0 W (⟨a, c, some ⟨g, 0, none⟩, n, xs, List.replicate n 0⟩ :: T) ((⟨q, 0, none⟩, .slice a xs.length c) :: (⟨q, 1, none⟩, .slice (some ⟨g, 0, none⟩) n n) :: C)

theorem made_ten {V : World} {a : Option Addr} {c n : Nat} {xs : List Int} (hA : Ints .i64 V V.heap.size a xs) (hc : xs.length ≤ c ∧ c ≤ 9223372036854775807) (hn : n ≤ 17592186044416) :
    Ten (V.alloc (.cells (madeCells #[Value.int .i64 0] n) 2)) (V.alloc (.cells (madeCells #[Value.int .i64 0] n) 2)).heap.size a c (some ⟨V.heap.size, 0, none⟩) n xs (List.replicate n 0) := by
  have row := World.ownsRow_lit (base := V.heap.size) (e := 2) (size := 1) V (madeCells #[Value.int .i64 0] n) n (Nat.le_refl _) (by unfold maxLen; omega) (by rw [size_madeCells, Nat.mul_one])
  rw [made_zeros] at row
  have hl : (List.replicate n (0 : Int)).length = n := List.length_replicate
  obtain ⟨aa, cc, he, hI⟩ := own_ints row (by intro x hx; rw [(List.mem_replicate.1 hx).2]; decide)
  rw [hl] at he
  cases he
  have hb : Below V.heap.size V (V.alloc (.cells (madeCells #[Value.int .i64 0] n) 2)) := (Below.refl _ _).alloc (Nat.le_refl _) _
  exact ⟨(hA.below hb (Nat.le_refl _)).mono hb.size, hI, hc.1, hc.2, by rw [hl]; exact Nat.le_refl _, by omega⟩

theorem none_ok1 {B : Nat} {w0 V : World} {T : List TenV} {C : List (Addr × Value)} (E : TEnv B w0 V T C) {a : Option Addr} {c n : Nat} {xs : List Int} (hA : Ints .i64 V V.heap.size a xs) (hc : xs.length ≤ c ∧ c ≤ 9223372036854775807) (hn : n ≤ 17592186044416) :
    NoneOK B w0 T C a c n xs (.pointer (some ⟨V.heap.size + 1, 0, none⟩)) ((V.alloc (.cells (madeCells #[Value.int .i64 0] n) 2)).alloc (.cells #[.slice a xs.length c, .slice (some ⟨V.heap.size, 0, none⟩) n n] 26)).drew := by
  refine ⟨V.heap.size + 1, V.heap.size, rfl, ?_⟩
  have h := (((E.alloc (.cells (madeCells #[Value.int .i64 0] n) 2)).addT (made_ten hA hc hn)).box (.slice a xs.length c) (.slice (some ⟨V.heap.size, 0, none⟩) n n) 26).drewN 1
  have hs : (V.alloc (.cells (madeCells #[Value.int .i64 0] n) 2)).heap.size = V.heap.size + 1 := by simp
  rw [hs] at h
  exact h
theorem none_ok2 {B : Nat} {w0 V : World} {T : List TenV} {C : List (Addr × Value)} (E : TEnv B w0 V T C) {a : Option Addr} {c n : Nat} {xs : List Int} (hA : Ints .i64 V V.heap.size a xs) (hc : xs.length ≤ c ∧ c ≤ 9223372036854775807) (hn : n ≤ 17592186044416) :
    NoneOK B w0 T C a c n xs (.pointer (some ⟨V.heap.size, 0, none⟩)) ((V.alloc (.cells #[.slice a xs.length c, .slice (some ⟨V.heap.size + 1, 0, none⟩) n n] 26)).alloc (.cells (madeCells #[Value.int .i64 0] n) 2)).drew := by
  refine ⟨V.heap.size, V.heap.size + 1, rfl, ?_⟩
  have h0 := E.box (.slice a xs.length c) (.slice (some ⟨V.heap.size + 1, 0, none⟩) n n) 26
  have hb : Below V.heap.size V (V.alloc (.cells #[.slice a xs.length c, .slice (some ⟨V.heap.size + 1, 0, none⟩) n n] 26)) := (Below.refl _ _).alloc (Nat.le_refl _) _
  have hs : (V.alloc (.cells #[.slice a xs.length c, .slice (some ⟨V.heap.size + 1, 0, none⟩) n n] 26)).heap.size = V.heap.size + 1 := by simp
  have ht := made_ten ((hA.below hb (Nat.le_refl _)).mono hb.size) hc hn
  rw [hs] at ht
  exact ((h0.alloc (.cells (madeCells #[Value.int .i64 0] n) 2)).addT ht).drewN 1
end Go.Proofs.Ytjjgmdnmhfoacaa
