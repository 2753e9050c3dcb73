/- Layer 24's argument in memory, and out of the reading of a list of generators. -/
import Derived.Test.YtiejkdnkdmanmaaRngW7
import Derived.Test.YtiejkdnkdmanmaaOpen
set_option linter.unusedVariables false
set_option linter.unusedSimpArgs false
namespace Go.Rt
open Go.RowKit Go.ChangeShapes Go.WideShapes Go.Deep
section
variable {H : Type} {enc : TypeId × Value → H} {P : Program} {w : World} {spare : Nat → Bool} {held : Bool}
theorem trod_ints_cap {t e : TypeId} {k : IntKind} {fuel : Nat} {v : Value} {x : DataW H × List MemPlace} (ht : P.underlying t = some (.slice e)) (he : P.underlying e = some (.int k)) (hc : P.cellsOf e = 1)
    (h : DataW.trod enc P w 0 spare held fuel t [v] = some x) : ∃ a xs c, v = .slice a xs.length c ∧ Ints k w w.heap.size a xs ∧ xs.length ≤ c ∧ c ≤ 9223372036854775807 := by
  obtain ⟨a, xs, c, rfl, hI⟩ := trod_ints ht he hc h
  refine ⟨a, xs, c, rfl, hI, ?_⟩
  rcases open_ints ht he hc h with ⟨hcs, _⟩ | ⟨a, len, cap, zs, hcs, _, hl, hm, hz, _, hcell, hwf⟩
  · simp at hcs
    obtain ⟨_, h1, h2⟩ := hcs
    rw [h1, h2]
    simp
  · simp at hcs
    obtain ⟨_, h1, h2⟩ := hcs
    unfold maxLen at hm
    omega
theorem trod_u64s4 {t e : TypeId} {fuel : Nat} {v0 v1 v2 v3 : Value} {x : DataW H × List MemPlace} (ht : P.underlying t = some (.array 4 e)) (he : P.underlying e = some (.int .u64)) (hc : P.cellsOf e = 1)
    (h : DataW.trod enc P w 0 spare held fuel t [v0, v1, v2, v3] = some x) :
    ∃ a b c d : Int, v0 = .int .u64 a ∧ v1 = .int .u64 b ∧ v2 = .int .u64 c ∧ v3 = .int .u64 d ∧ (0 ≤ a ∧ a < 18446744073709551616) ∧ (0 ≤ b ∧ b < 18446744073709551616) ∧ (0 ≤ c ∧ c < 18446744073709551616) ∧ (0 ≤ d ∧ d < 18446744073709551616) := by
  obtain ⟨xs, m, _, _, _, hl, hi⟩ := DataW.trod_array ht h
  rw [hc] at hi
  have one : ∀ (i : Nat) (v : Value), i < 4 → ([v0, v1, v2, v3].drop (i * 1)).take 1 = [v] → ∃ k : Int, v = .int .u64 k ∧ 0 ≤ k ∧ k < 18446744073709551616 := by
    intro i v h4 hv
    have := hi i h4
    rw [hv, List.getElem?_eq_getElem (by omega)] at this
    obtain ⟨k, hk, _, hwf⟩ := DataW.trod_int he this
    simp at hk
    subst hk
    refine ⟨k, rfl, ?_⟩
    simp [Lit.wf, IntKind.min, IntKind.max, IntKind.signed, IntKind.bits] at hwf
    omega
  obtain ⟨a, rfl, a0, a1⟩ := one 0 v0 (by omega) rfl
  obtain ⟨b, rfl, b0, b1⟩ := one 1 v1 (by omega) rfl
  obtain ⟨c, rfl, c0, c1⟩ := one 2 v2 (by omega) rfl
  obtain ⟨d, rfl, d0, d1⟩ := one 3 v3 (by omega) rfl
  exact ⟨a, b, c, d, rfl, rfl, rfl, rfl, ⟨a0, a1⟩, ⟨b0, b1⟩, ⟨c0, c1⟩, ⟨d0, d1⟩⟩
end
end Go.Rt
namespace Go.Proofs.Ytiejkdnkdmanmaa
open Go.ChangeShapes Go.WideShapes Go.RowKit Go.Rt

/-- An element of layer 24's statements: a generator and a number. -/
structure AskAt (w : World) (hi b o : Nat) (a : Option Addr) (xs : List Int) (c : Nat) (s : St) (n : Int) : Prop where
  lt : b < hi
  c0 : w.cell? ⟨b, o, none⟩ = some (.slice a xs.length c)
  c1 : w.cell? ⟨b, o + 1, none⟩ = some (.int .u64 (s.a : Nat))
  c2 : w.cell? ⟨b, o + 2, none⟩ = some (.int .u64 (s.b : Nat))
  c3 : w.cell? ⟨b, o + 3, none⟩ = some (.int .u64 (s.c : Nat))
  c4 : w.cell? ⟨b, o + 4, none⟩ = some (.int .u64 (s.d : Nat))
  c5 : w.cell? ⟨b, o + 5, none⟩ = some (.int .u64 n)
  is : Ints .u64 w hi a xs
  hc : xs.length ≤ c
  hc2 : c ≤ 9223372036854775807
  ok : s.ok
  n0 : 0 ≤ n
  n1 : n ≤ 18446744073709551615

theorem AskAt.below {w w' : World} {hi b o : Nat} {a : Option Addr} {xs : List Int} {c : Nat} {s : St} {n : Int} (h : AskAt w hi b o a xs c s n) (hb : Below hi w w') : AskAt w' hi b o a xs c s n :=
  ⟨h.lt, (hb.cell (p := ⟨b, o, none⟩) h.lt).trans h.c0, (hb.cell (p := ⟨b, o + 1, none⟩) h.lt).trans h.c1, (hb.cell (p := ⟨b, o + 2, none⟩) h.lt).trans h.c2, (hb.cell (p := ⟨b, o + 3, none⟩) h.lt).trans h.c3,
   (hb.cell (p := ⟨b, o + 4, none⟩) h.lt).trans h.c4, (hb.cell (p := ⟨b, o + 5, none⟩) h.lt).trans h.c5, h.is.below hb (Nat.le_refl _), h.hc, h.hc2, h.ok, h.n0, h.n1⟩

/-- The argument of layer 24's statements. -/
structure AsksAt (w : World) (hi : Nat) (a : Option Addr) (n : Nat) : Prop where
  len : n ≤ 9223372036854775807
  at_ : ∀ i, i < n → ∃ b off a' xs c s m, a = some ⟨b, off, none⟩ ∧ AskAt w hi b (off + i * 6) a' xs c s m

theorem AskAt.wf {w : World} {hi b o : Nat} {a : Option Addr} {xs : List Int} {c : Nat} {s : St} {n : Int} (h : AskAt w hi b o a xs c s n) : ∀ x ∈ xs, 0 ≤ x ∧ x ≤ 18446744073709551615 := by
  intro x hx
  have := h.is.wf x hx
  simp [Lit.wf, IntKind.min, IntKind.max, IntKind.signed, IntKind.bits] at this
  omega
theorem goodR_goodS {w : World} {hi b o : Nat} {a : Option Addr} {xs : List Int} {c : Nat} {s : St} {n : Int} (h : AskAt w hi b o a xs c s n) (hg : goodR xs.length s = true) : GoodS xs s ∧ xs.length ≤ 4096 := by
  unfold goodR at hg
  simp at hg
  exact ⟨⟨h.ok, hg.2, h.wf⟩, hg.1⟩

theorem own24 : ownKnob Try.prog.godebug = none := by kernel_rfl
theorem laidOut24 : laidOutB Try.prog = true := by kernel_rfl
theorem cellsU64 : Try.prog.cellsOf 24 = 1 := by kernel_rfl
theorem cellsU64s : Try.prog.cellsOf 23 = 1 := by kernel_rfl
theorem cellsRand : Try.prog.cellsOf 27 = 5 := by kernel_rfl
theorem cells4 : Try.prog.cellsOf 25 = 4 := by kernel_rfl
theorem cellsAsk : Try.prog.cellsOf 29 = 6 := by kernel_rfl

theorem list5 {α : Type} {cs : List α} (h : cs.length = 5) : ∃ a b c d e, cs = [a, b, c, d, e] := by
  match cs, h with
  | [a, b, c, d, e], _ => exact ⟨a, b, c, d, e, rfl⟩
theorem list6 {α : Type} {cs : List α} (h : cs.length = 6) : ∃ a b c d e f, cs = [a, b, c, d, e, f] := by
  match cs, h with
  | [a, b, c, d, e, f], _ => exact ⟨a, b, c, d, e, f, rfl⟩

theorem rand_of_trod {H : Type} {enc : TypeId × Value → H} {W : World} {spare : Nat → Bool} {held : Bool} {fuel : Nat} {v0 v1 v2 v3 v4 : Value} {x : DataW H × List MemPlace}
    (h : DataW.trod enc Try.prog W 0 spare held fuel 27 [v0, v1, v2, v3, v4] = some x) :
    ∃ a xs c s, v0 = .slice a xs.length c ∧ v1 = .int .u64 ((s : St).a : Nat) ∧ v2 = .int .u64 (s.b : Nat) ∧ v3 = .int .u64 (s.c : Nat) ∧ v4 = .int .u64 (s.d : Nat) ∧ Ints .u64 W W.heap.size a xs ∧ xs.length ≤ c ∧ c ≤ 9223372036854775807 ∧ s.ok := by
  obtain ⟨n0, y0, u0, hu0, ht0⟩ := trod_field1 Try.underlying27 h 0 _ rfl cellsU64s (by show 0 < 5; omega)
  obtain ⟨n1, y1, ht1⟩ := trod_field Try.underlying27 h 1 _ rfl
  have e4 : (([v0, v1, v2, v3, v4].drop 1).take (Try.prog.cellsOf 25)) = [v1, v2, v3, v4] := by rw [cells4]; rfl
  have ht1' : DataW.trod enc Try.prog W 0 spare held n1 25 [v1, v2, v3, v4] = some y1 := by rw [← e4]; exact ht1
  have hu0' : v0 = u0 := by simpa using hu0
  subst hu0'
  obtain ⟨a, xs, c, rfl, hI, hc, hc2⟩ := trod_ints_cap Try.underlying23 Try.underlying24 cellsU64 ht0
  obtain ⟨p, q, r, t, rfl, rfl, rfl, rfl, hp, hq, hr, ht⟩ := trod_u64s4 Try.underlying25 Try.underlying24 cellsU64 ht1'
  have e : ∀ z : Int, 0 ≤ z → ((z.toNat : Nat) : Int) = z := fun z h => by omega
  refine ⟨a, xs, c, ⟨p.toNat, q.toNat, r.toNat, t.toNat⟩, rfl, ?_, ?_, ?_, ?_, hI, hc, hc2, ?_⟩
  · show _ = Value.int .u64 ((p.toNat : Nat) : Int); rw [e p hp.1]
  · show _ = Value.int .u64 ((q.toNat : Nat) : Int); rw [e q hq.1]
  · show _ = Value.int .u64 ((r.toNat : Nat) : Int); rw [e r hr.1]
  · show _ = Value.int .u64 ((t.toNat : Nat) : Int); rw [e t ht.1]
  · refine ⟨?_, ?_, ?_, ?_⟩
    · show p.toNat < _; omega
    · show q.toNat < _; omega
    · show r.toNat < _; omega
    · show t.toNat < _; omega

theorem asks_of_trod {H : Type} {enc : TypeId × Value → H} {W : World} {spare : Nat → Bool} {held : Bool} {a : Option Addr} {n c : Nat} {d : DataW H} {ps : List MemPlace}
    (h : DataW.Trod enc Try.prog W 0 spare held 22 (.slice a n c) d ps) : AsksAt W W.heap.size a n := by
  obtain ⟨fuel, hf⟩ := h
  simp only [Value.cells] at hf
  obtain ⟨a', len, cap, he, hlen, hat⟩ := trod_elems Try.underlying22 (by rw [cellsAsk]; omega) hf
  injection he with e1 e2 e3
  subst e1; subst e2; subst e3
  refine ⟨hlen, fun i hi => ?_⟩
  obtain ⟨b, off, cs, m, y, rfl, hb, hcl, hcell, hy⟩ := hat i hi
  rw [cellsAsk] at hcl hcell
  obtain ⟨v0, v1, v2, v3, v4, v5, rfl⟩ := list6 hcl
  obtain ⟨n0, y0, ht0⟩ := trod_field Try.underlying29 hy 0 _ rfl
  have e5 : (([v0, v1, v2, v3, v4, v5].drop 0).take (Try.prog.cellsOf 27)) = [v0, v1, v2, v3, v4] := by rw [cellsRand]; rfl
  have ht0' : DataW.trod enc Try.prog W 0 spare held n0 27 [v0, v1, v2, v3, v4] = some y0 := by rw [← e5]; exact ht0
  obtain ⟨n1, y1, u5, hu5, ht1⟩ := trod_field1 Try.underlying29 hy 1 _ rfl cellsU64 (by show 5 < 6; omega)
  have hu5' : v5 = u5 := by simpa using hu5
  subst hu5'
  obtain ⟨a2, xs, c2, s, rfl, rfl, rfl, rfl, rfl, hI, hc, hc2, hok⟩ := rand_of_trod (v0 := v0) (v1 := v1) (v2 := v2) (v3 := v3) (v4 := v4) ht0'
  obtain ⟨k, hk, _, hwf⟩ := DataW.trod_int Try.underlying24 ht1
  simp at hk
  subst hk
  have hw : 0 ≤ k ∧ k ≤ 18446744073709551615 := by
    simp [Lit.wf, IntKind.min, IntKind.max, IntKind.signed, IntKind.bits] at hwf
    omega
  exact ⟨b, off, a2, xs, c2, s, k, rfl, hb, (hcell 0 (by omega)), (hcell 1 (by omega)), (hcell 2 (by omega)), (hcell 3 (by omega)), (hcell 4 (by omega)), (hcell 5 (by omega)), hI, hc, hc2, hok, hw.1, hw.2⟩
end Go.Proofs.Ytiejkdnkdmanmaa
