/- What layer 31's laws share: their argument, first cursors and next batches in all cases, wakes. -/
import Derived.Test.YtiejkdnkdmanmaaLoad7
import Derived.Test.YtiejkdnkdmanmaaRngW9
import Derived.Sort.AtCall
set_option linter.unusedVariables false
set_option linter.unusedSimpArgs false
namespace Go.Proofs.Ytiejkdnkdmanmaa
open Go.ChangeShapes Go.WideShapes Go.RowKit Go.Rt

/-- An element: a cursor, a generator, how many examples, how many at once. -/
structure PlayAt (w : World) (hi b o : Nat) (a : Option Addr) (xs : List Int) (c : Nat) (at_ ep : Int) (a2 : Option Addr) (rs : List Int) (c2 : Nat) (s : St) (n z : Int) : Prop where
  lt : b < hi
  cell : ∀ j v, [.slice a xs.length c, .int .i64 at_, .int .i64 ep, .slice a2 rs.length c2, .int .u64 (s.a : Nat), .int .u64 (s.b : Nat), .int .u64 (s.c : Nat), .int .u64 (s.d : Nat), .int .i64 n, .int .i64 z][j]? = some v → w.cell? ⟨b, o + j, none⟩ = some v
  ix : Ints .i64 w hi a xs
  ir : Ints .u64 w hi a2 rs
  hc : rs.length ≤ c2
  hc2 : c2 ≤ 9223372036854775807
  ok : s.ok
  hat : -9223372036854775808 ≤ at_ ∧ at_ ≤ 9223372036854775807
  hep : -9223372036854775808 ≤ ep ∧ ep ≤ 9223372036854775807
  hn : -9223372036854775808 ≤ n ∧ n ≤ 9223372036854775807
  hz : -9223372036854775808 ≤ z ∧ z ≤ 9223372036854775807
theorem PlayAt.below {w w' : World} {hi b o : Nat} {a : Option Addr} {xs : List Int} {c : Nat} {at_ ep : Int} {a2 : Option Addr} {rs : List Int} {c2 : Nat} {s : St} {n z : Int} (h : PlayAt w hi b o a xs c at_ ep a2 rs c2 s n z) (hb : Below hi w w') : PlayAt w' hi b o a xs c at_ ep a2 rs c2 s n z :=
  ⟨h.lt, fun j v hv => (hb.cell (p := ⟨b, o + j, none⟩) h.lt).trans (h.cell j v hv), h.ix.below hb (Nat.le_refl _), h.ir.below hb (Nat.le_refl _), h.hc, h.hc2, h.ok, h.hat, h.hep, h.hn, h.hz⟩
structure PlaysAt (w : World) (hi : Nat) (a : Option Addr) (n : Nat) : Prop where
  len : n ≤ 9223372036854775807
  at_ : ∀ i, i < n → ∃ b off a1 xs c at_ ep a2 rs c2 s m z, a = some ⟨b, off, none⟩ ∧ PlayAt w hi b (off + i * 10) a1 xs c at_ ep a2 rs c2 s m z
theorem PlayAt.good {w : World} {hi b o : Nat} {a : Option Addr} {xs : List Int} {c : Nat} {at_ ep : Int} {a2 : Option Addr} {rs : List Int} {c2 : Nat} {s : St} {n z : Int} (h : PlayAt w hi b o a xs c at_ ep a2 rs c2 s n z) (hg : goodR rs.length s = true) : GoodS rs s ∧ rs.length ≤ 4096 := by
  unfold goodR at hg
  simp at hg
  refine ⟨⟨h.ok, hg.2, fun x hx => ?_⟩, hg.1⟩
  have := h.ir.wf x hx
  simp [Lit.wf, IntKind.min, IntKind.max, IntKind.signed, IntKind.bits] at this
  omega
theorem own31 : ownKnob Try.prog.godebug = none := by kernel_rfl
theorem laidOut31 : laidOutB Try.prog = true := by kernel_rfl
theorem cellsInt31 : Try.prog.cellsOf 3 = 1 := by kernel_rfl
theorem cellsInts31 : Try.prog.cellsOf 46 = 1 := by kernel_rfl
theorem cellsCur : Try.prog.cellsOf 73 = 3 := by kernel_rfl
theorem cellsPlay : Try.prog.cellsOf 75 = 10 := by kernel_rfl
theorem list10 {α : Type} {cs : List α} (h : cs.length = 10) : ∃ v0 v1 v2 v3 v4 v5 v6 v7 v8 v9, cs = [v0, v1, v2, v3, v4, v5, v6, v7, v8, v9] := by
  match cs, h with
  | [v0, v1, v2, v3, v4, v5, v6, v7, v8, v9], _ => exact ⟨v0, v1, v2, v3, v4, v5, v6, v7, v8, v9, rfl⟩
theorem cur_of_trod {H : Type} {enc : TypeId × Value → H} {W : World} {spare : Nat → Bool} {held : Bool} {fuel : Nat} {v0 v1 v2 : Value} {x : DataW H × List MemPlace}
    (h : DataW.trod enc Try.prog W 0 spare held fuel 73 [v0, v1, v2] = some x) :
    ∃ a xs c at_ ep, v0 = .slice a xs.length c ∧ v1 = .int .i64 at_ ∧ v2 = .int .i64 ep ∧ Ints .i64 W W.heap.size a xs ∧ (-9223372036854775808 ≤ at_ ∧ at_ ≤ 9223372036854775807) ∧ (-9223372036854775808 ≤ ep ∧ ep ≤ 9223372036854775807) := by
  obtain ⟨n0, y0, u0, hu0, ht0⟩ := trod_field1 Try.underlying73 h 0 _ rfl cellsInts31 (by show 0 < 3; omega)
  obtain ⟨n1, y1, u1, hu1, ht1⟩ := trod_field1 Try.underlying73 h 1 _ rfl cellsInt31 (by show 1 < 3; omega)
  obtain ⟨n2, y2, u2, hu2, ht2⟩ := trod_field1 Try.underlying73 h 2 _ rfl cellsInt31 (by show 2 < 3; omega)
  have hu0' : v0 = u0 := by simpa using hu0
  have hu1' : v1 = u1 := by simpa using hu1
  have hu2' : v2 = u2 := by simpa using hu2
  subst hu0'; subst hu1'; subst hu2'
  obtain ⟨a, xs, c, rfl, hI, _, _⟩ := trod_ints_cap Try.underlying46 Try.underlying3 cellsInt31 ht0
  obtain ⟨k1, hk1, _, hw1⟩ := DataW.trod_int Try.underlying3 ht1
  obtain ⟨k2, hk2, _, hw2⟩ := DataW.trod_int Try.underlying3 ht2
  simp at hk1 hk2
  subst hk1; subst hk2
  exact ⟨a, xs, c, k1, k2, rfl, rfl, rfl, hI, wf_i64_iff.1 hw1, wf_i64_iff.1 hw2⟩
theorem plays_of_trod {H : Type} {enc : TypeId × Value → H} {W : World} {spare : Nat → Bool} {held : Bool} {a : Option Addr} {n c : Nat} {d : DataW H} {ps : List MemPlace}
    (h : DataW.Trod enc Try.prog W 0 spare held 71 (.slice a n c) d ps) : PlaysAt W W.heap.size a n := by
  obtain ⟨fuel, hf⟩ := h
  simp only [Value.cells] at hf
  obtain ⟨a', len, cap, he, hlen, hat⟩ := trod_elems Try.underlying71 (by rw [cellsPlay]; omega) hf
  injection he with e1 e2 e3
  subst e1; subst e2; subst e3
  refine ⟨hlen, fun i hi => ?_⟩
  obtain ⟨b, off, cs, m, y, rfl, hb, hcl, hcell, hy⟩ := hat i hi
  rw [cellsPlay] at hcl hcell
  obtain ⟨v0, v1, v2, v3, v4, v5, v6, v7, v8, v9, rfl⟩ := list10 hcl
  obtain ⟨n0, y0, ht0⟩ := trod_field Try.underlying75 hy 0 _ rfl
  have e3 : (([v0, v1, v2, v3, v4, v5, v6, v7, v8, v9].drop 0).take (Try.prog.cellsOf 73)) = [v0, v1, v2] := by rw [cellsCur]; rfl
  have ht0' : DataW.trod enc Try.prog W 0 spare held n0 73 [v0, v1, v2] = some y0 := by rw [← e3]; exact ht0
  obtain ⟨n1, y1, ht1⟩ := trod_field Try.underlying75 hy 1 _ rfl
  have e5 : (([v0, v1, v2, v3, v4, v5, v6, v7, v8, v9].drop 3).take (Try.prog.cellsOf 27)) = [v3, v4, v5, v6, v7] := by rw [cellsRand]; rfl
  have ht1' : DataW.trod enc Try.prog W 0 spare held n1 27 [v3, v4, v5, v6, v7] = some y1 := by rw [← e5]; exact ht1
  obtain ⟨n2, y2, u8, hu8, ht2⟩ := trod_field1 Try.underlying75 hy 2 _ rfl cellsInt31 (by show 8 < 10; omega)
  obtain ⟨n3, y3, u9, hu9, ht3⟩ := trod_field1 Try.underlying75 hy 3 _ rfl cellsInt31 (by show 9 < 10; omega)
  have hu8' : v8 = u8 := by simpa using hu8
  have hu9' : v9 = u9 := by simpa using hu9
  subst hu8'; subst hu9'
  obtain ⟨a1, xs, c1, at_, ep, rfl, rfl, rfl, hI1, hat1, hep1⟩ := cur_of_trod ht0'
  obtain ⟨a2, rs, c2, s, rfl, rfl, rfl, rfl, rfl, hI2, hc, hc2, hok⟩ := rand_of_trod ht1'
  obtain ⟨k1, hk1, _, hw1⟩ := DataW.trod_int Try.underlying3 ht2
  obtain ⟨k2, hk2, _, hw2⟩ := DataW.trod_int Try.underlying3 ht3
  simp at hk1 hk2
  subst hk1; subst hk2
  refine ⟨b, off, a1, xs, c1, at_, ep, a2, rs, c2, s, k1, k2, rfl, hb, fun j v hj => ?_, hI1, hI2, hc, hc2, hok, hat1, hep1, wf_i64_iff.1 hw1, wf_i64_iff.1 hw2⟩
  have hj2 : j < 10 := by have := (List.getElem?_eq_some_iff.1 hj).1; simpa using this
  exact (hcell j hj2).trans hj

/-! first cursors, in all cases -/
def sOk (rs : List Int) (s : St) (n : Int) : Bool := goodR rs.length s && (decide (1 ≤ n) && decide (n ≤ 1024))
theorem sOk_iff {rs : List Int} {s : St} {n : Int} : sOk rs s n = true ↔ goodR rs.length s = true ∧ 1 ≤ n ∧ n ≤ 1024 := by simp [sOk]
noncomputable def sL (rs : List Int) (s : St) (n : Int) : List Int := if sOk rs s n then lst (n.toNat - 1) rs s (n.toNat - 1) else []
noncomputable def sR (rs : List Int) (s : St) (n : Int) : List Int := if sOk rs s n then (tur (n.toNat - 1) rs s (n.toNat - 1)).1 else []
noncomputable def sS (rs : List Int) (s : St) (n : Int) : St := if sOk rs s n then (tur (n.toNat - 1) rs s (n.toNat - 1)).2 else St.nil
def sE (rs : List Int) (s : St) (n : Int) : Int := if sOk rs s n then 0 else 1
theorem natPart {n : Int} (h : 1 ≤ n) : n = ((n.toNat - 1 + 1 : Nat) : Int) := by omega
theorem goodS_of {rs : List Int} {s : St} (hok : s.ok) (hw : ∀ x ∈ rs, 0 ≤ x ∧ x ≤ 18446744073709551615) (hg : goodR rs.length s = true) : GoodS rs s ∧ rs.length ≤ 4096 := by
  unfold goodR at hg
  simp at hg
  exact ⟨⟨hok, hg.2, hw⟩, hg.1⟩
theorem ints_wf64 {W : World} {hi : Nat} {a : Option Addr} {rs : List Int} (h : Ints .u64 W hi a rs) : ∀ x ∈ rs, 0 ≤ x ∧ x ≤ 18446744073709551615 := fun x hx => wf_u64_iff.1 (h.wf x hx)
theorem start_all (a2 : Option Addr) (c2 : Nat) (rs : List Int) (s : St) (n : Int) (w : World) (hok : s.ok) (hr : Ints .u64 w w.heap.size a2 rs) (hc : rs.length ≤ c2 ∧ c2 ≤ 9223372036854775807) :
    Calls Try.prog 54 #[.agg #[.slice a2 rs.length c2, .int .u64 (s.a : Nat), .int .u64 (s.b : Nat), .int .u64 (s.c : Nat), .int .u64 (s.d : Nat)], .int .i64 n] w (RetStart w (sL rs s n) (sR rs s n) (sS rs s n) (sE rs s n)) := by
  by_cases h : sOk rs s n = true
  · have h2 := sOk_iff.1 h
    obtain ⟨hg, h3, h4⟩ := h2
    obtain ⟨hgs, hl⟩ := goodS_of hok (ints_wf64 hr) hg
    have := start_good a2 c2 rs s (n.toNat - 1) w hgs hl hr hc (by omega)
    rw [← natPart h3] at this
    rw [sL, sR, sS, sE, if_pos h, if_pos h, if_pos h, if_pos h]
    exact this
  · rw [sL, sR, sS, sE, if_neg h, if_neg h, if_neg h, if_neg h]
    exact start_bad a2 c2 rs s n w hok hr.len (fun h2 => h (sOk_iff.2 h2))
theorem rstart_all (hi0 : Nat) (a2 : Option Addr) (c2 : Nat) (rs : List Int) (s : St) (n : Int) (w : World) (hok : s.ok) (hh : hi0 ≤ w.heap.size) (hr : Ints .u64 w hi0 a2 rs) (hc : rs.length ≤ c2 ∧ c2 ≤ 9223372036854775807) (h : sOk rs s n = true) :
    Calls Try.prog 56 #[.agg #[.slice a2 rs.length c2, .int .u64 (s.a : Nat), .int .u64 (s.b : Nat), .int .u64 (s.c : Nat), .int .u64 (s.d : Nat)], .int .i64 n] w (RetStartR hi0 w (sL rs s n) (sR rs s n) (sS rs s n)) := by
  have h2 := sOk_iff.1 h
  obtain ⟨hg, h3, h4⟩ := h2
  obtain ⟨hgs, hl⟩ := goodS_of hok (ints_wf64 hr) hg
  have := rstart_any a2 c2 rs s (n.toNat - 1) w hgs hi0 hh hr hc (by omega)
  rw [← natPart h3] at this
  rw [sL, sR, sS, if_pos h, if_pos h, if_pos h]
  exact this
theorem sL_wf {rs : List Int} {s : St} {n : Int} : ∀ x ∈ sL rs s n, (Lit.int .i64 x).wf = true := by
  unfold sL
  split
  · next h =>
    have h2 := sOk_iff.1 h
    exact once_wf (lst_once _ rs s _ (Nat.le_refl _)) (by omega)
  · simp
theorem sL_len {rs : List Int} {s : St} {n : Int} : (sL rs s n).length ≤ 1024 := by
  unfold sL
  split
  · next h =>
    have h2 := sOk_iff.1 h
    rw [lst_len]
    omega
  · simp
theorem sR_wf {rs : List Int} {s : St} {n : Int} (hok : s.ok) (hw : ∀ x ∈ rs, 0 ≤ x ∧ x ≤ 18446744073709551615) : ∀ x ∈ sR rs s n, (Lit.int .u64 x).wf = true := by
  unfold sR
  split
  · next h =>
    have h2 := sOk_iff.1 h
    exact wf_of_bounds (tur_good (goodS_of hok hw h2.1).1 _).2.2
  · simp

/-! next batches, in all cases -/
def nOk (xs : List Int) (at_ ep : Int) (rs : List Int) (s : St) (n z : Int) : Bool := mayC xs at_ ep n && (goodR rs.length s && (decide (1 ≤ z) && decide (z ≤ 4096)))
theorem nOk_iff {xs : List Int} {at_ ep : Int} {rs : List Int} {s : St} {n z : Int} : nOk xs at_ ep rs s n z = true ↔ mayC xs at_ ep n = true ∧ goodR rs.length s = true ∧ 1 ≤ z ∧ z ≤ 4096 := by simp [nOk]
def nE (xs : List Int) (at_ ep : Int) (rs : List Int) (s : St) (n z : Int) : Int := if nOk xs at_ ep rs s n z then (if at_ = n ∧ ep = 1048576 then 5 else 0) else 1
noncomputable def nI (xs : List Int) (at_ ep : Int) (rs : List Int) (s : St) (n z : Int) : List Int := if nE xs at_ ep rs s n z = 0 then nxI xs rs s at_.toNat (n.toNat - 1) z.toNat else []
noncomputable def nO (xs : List Int) (at_ ep : Int) (rs : List Int) (s : St) (n z : Int) : List Int := if nE xs at_ ep rs s n z = 0 then nxO xs rs s at_.toNat (n.toNat - 1) else []
noncomputable def nA (xs : List Int) (at_ ep : Int) (rs : List Int) (s : St) (n z : Int) : Int := if nE xs at_ ep rs s n z = 0 then ((nxEnd at_.toNat (n.toNat - 1) z.toNat : Nat) : Int) else 0
noncomputable def nP (xs : List Int) (at_ ep : Int) (rs : List Int) (s : St) (n z : Int) : Int := if nE xs at_ ep rs s n z = 0 then ((nxE at_.toNat ep.toNat (n.toNat - 1) : Nat) : Int) else 0
noncomputable def nR (xs : List Int) (at_ ep : Int) (rs : List Int) (s : St) (n z : Int) : List Int := if nE xs at_ ep rs s n z = 0 then nxR rs s at_.toNat (n.toNat - 1) else []
noncomputable def nS (xs : List Int) (at_ ep : Int) (rs : List Int) (s : St) (n z : Int) : St := if nE xs at_ ep rs s n z = 0 then nxS rs s at_.toNat (n.toNat - 1) else St.nil
theorem next_all (a a2 : Option Addr) (c c2 : Nat) (xs rs : List Int) (s : St) (at_ ep n z : Int) (w : World) (hok : s.ok) (hx : Ints .i64 w w.heap.size a xs) (hr : Ints .u64 w w.heap.size a2 rs) (hc : rs.length ≤ c2 ∧ c2 ≤ 9223372036854775807) :
    Calls Try.prog 50 #[.agg #[.slice a xs.length c, .int .i64 at_, .int .i64 ep], .agg #[.slice a2 rs.length c2, .int .u64 (s.a : Nat), .int .u64 (s.b : Nat), .int .u64 (s.c : Nat), .int .u64 (s.d : Nat)], .int .i64 n, .int .i64 z] w (RetNext w (nI xs at_ ep rs s n z) (nO xs at_ ep rs s n z) (nA xs at_ ep rs s n z) (nP xs at_ ep rs s n z) (nR xs at_ ep rs s n z) (nS xs at_ ep rs s n z) (nE xs at_ ep rs s n z)) := by
  by_cases h : nOk xs at_ ep rs s n z = true
  · have h2 := nOk_iff.1 h
    obtain ⟨hm, hg, hz1, hz2⟩ := h2
    obtain ⟨hgs, hl⟩ := goodS_of hok (ints_wf64 hr) hg
    have hmc := mayC_iff.1 hm
    obtain ⟨m1, m2, _, m3, m4, m5, m6⟩ := hmc
    have en := natPart m1
    have ea : at_ = ((at_.toNat : Nat) : Int) := by omega
    have ee : ep = ((ep.toNat : Nat) : Int) := by omega
    have ez : z = ((z.toNat : Nat) : Int) := by omega
    have hm2 := hm
    rw [en, ea, ee] at hm2
    by_cases hb : at_ = n ∧ ep = 1048576
    · have hE : nE xs at_ ep rs s n z = 5 := by rw [nE, if_pos h, if_pos hb]
      have h0 : ¬ nE xs at_ ep rs s n z = 0 := by rw [hE]; decide
      rw [nI, nO, nA, nP, nR, nS, if_neg h0, if_neg h0, if_neg h0, if_neg h0, if_neg h0, if_neg h0, hE]
      have := lnext_over a a2 c c2 xs rs s at_.toNat ep.toNat (n.toNat - 1) z.toNat w hm2 hgs hl hx hr hc (by omega) (by omega) ⟨by omega, by omega⟩
      rw [← en, ← ea, ← ee, ← ez] at this
      exact this
    · have hE : nE xs at_ ep rs s n z = 0 := by rw [nE, if_pos h, if_neg hb]
      rw [nI, nO, nA, nP, nR, nS, if_pos hE, if_pos hE, if_pos hE, if_pos hE, if_pos hE, if_pos hE, hE]
      have := lnext_good a a2 c c2 xs rs s at_.toNat ep.toNat (n.toNat - 1) z.toNat w hm2 hgs hl hx hr hc (by omega) (by omega) (fun hq => hb ⟨by omega, by omega⟩)
      rw [← en, ← ea, ← ee, ← ez] at this
      exact this
  · have hE : nE xs at_ ep rs s n z = 1 := by rw [nE, if_neg h]
    have h0 : ¬ nE xs at_ ep rs s n z = 0 := by rw [hE]; decide
    rw [nI, nO, nA, nP, nR, nS, if_neg h0, if_neg h0, if_neg h0, if_neg h0, if_neg h0, if_neg h0, hE]
    exact lnext_bad a a2 c c2 xs rs s at_ ep n z w hok hr.len hx (fun h2 => h (nOk_iff.2 h2))
theorem rnext_all (hi0 : Nat) (a a2 : Option Addr) (c c2 : Nat) (xs rs : List Int) (s : St) (at_ ep n z : Int) (w : World) (hok : s.ok) (hx : Ints .i64 w w.heap.size a xs) (hh : hi0 ≤ w.heap.size) (hr : Ints .u64 w hi0 a2 rs) (hc : rs.length ≤ c2 ∧ c2 ≤ 9223372036854775807) (h : nOk xs at_ ep rs s n z = true) :
    Calls Try.prog 57 #[.agg #[.slice a xs.length c, .int .i64 at_, .int .i64 ep], .agg #[.slice a2 rs.length c2, .int .u64 (s.a : Nat), .int .u64 (s.b : Nat), .int .u64 (s.c : Nat), .int .u64 (s.d : Nat)], .int .i64 n, .int .i64 z] w (RetNextR hi0 w (nI xs at_ ep rs s n z) (nO xs at_ ep rs s n z) (nA xs at_ ep rs s n z) (nP xs at_ ep rs s n z) (nR xs at_ ep rs s n z) (nS xs at_ ep rs s n z) (nE xs at_ ep rs s n z)) := by
  have h2 := nOk_iff.1 h
  obtain ⟨hm, hg, hz1, hz2⟩ := h2
  obtain ⟨hgs, hl⟩ := goodS_of hok (ints_wf64 hr) hg
  have hmc := mayC_iff.1 hm
  obtain ⟨m1, m2, _, m3, m4, m5, m6⟩ := hmc
  have en := natPart m1
  have ea : at_ = ((at_.toNat : Nat) : Int) := by omega
  have ee : ep = ((ep.toNat : Nat) : Int) := by omega
  have ez : z = ((z.toNat : Nat) : Int) := by omega
  have hm2 := hm
  rw [en, ea, ee] at hm2
  by_cases hb : at_ = n ∧ ep = 1048576
  · have hE : nE xs at_ ep rs s n z = 5 := by rw [nE, if_pos h, if_pos hb]
    have h0 : ¬ nE xs at_ ep rs s n z = 0 := by rw [hE]; decide
    rw [nI, nO, nA, nP, nR, nS, if_neg h0, if_neg h0, if_neg h0, if_neg h0, if_neg h0, if_neg h0, hE]
    have := rnext_over a a2 c c2 xs rs s at_.toNat ep.toNat (n.toNat - 1) z.toNat w hm2 hgs hx hi0 hh hr hc (by omega) (by omega) ⟨by omega, by omega⟩
    rw [← en, ← ea, ← ee, ← ez] at this
    exact this
  · have hE : nE xs at_ ep rs s n z = 0 := by rw [nE, if_pos h, if_neg hb]
    rw [nI, nO, nA, nP, nR, nS, if_pos hE, if_pos hE, if_pos hE, if_pos hE, if_pos hE, if_pos hE, hE]
    have := rnext_good a a2 c c2 xs rs s at_.toNat ep.toNat (n.toNat - 1) z.toNat w hm2 hgs hx hi0 hh hr hc (by omega) (by omega) (fun hq => hb ⟨by omega, by omega⟩)
    rw [← en, ← ea, ← ee, ← ez] at this
    exact this
theorem nE_zero {xs : List Int} {at_ ep : Int} {rs : List Int} {s : St} {n z : Int} (h : nE xs at_ ep rs s n z = 0) : nOk xs at_ ep rs s n z = true ∧ ¬ (at_ = n ∧ ep = 1048576) := by
  unfold nE at h
  split at h
  · next h2 =>
    refine ⟨h2, ?_⟩
    intro hb
    rw [if_pos hb] at h
    cases h
  · cases h
theorem nO_once {xs : List Int} {at_ ep : Int} {rs : List Int} {s : St} {n z : Int} (h : nE xs at_ ep rs s n z = 0) : Once n.toNat (nO xs at_ ep rs s n z) := by
  have h2 := mayC_iff.1 (nOk_iff.1 (nE_zero h).1).1
  have h3 := h2.2.2.1
  have e : n = ((n.toNat : Nat) : Int) := by omega
  rw [e] at h3
  have ho := axesB_once.1 h3
  have := nx_once (rs := rs) (s := s) (A := at_.toNat) (N := n.toNat - 1) (xs := xs) (by rw [show n.toNat - 1 + 1 = n.toNat by omega]; exact ho)
  rw [nO, if_pos h]
  rw [show n.toNat - 1 + 1 = n.toNat by omega] at this
  exact this
theorem nO_wf {xs : List Int} {at_ ep : Int} {rs : List Int} {s : St} {n z : Int} : ∀ x ∈ nO xs at_ ep rs s n z, (Lit.int .i64 x).wf = true := by
  by_cases h : nE xs at_ ep rs s n z = 0
  · have h2 := mayC_iff.1 (nOk_iff.1 (nE_zero h).1).1
    exact once_wf (nO_once h) (by omega)
  · rw [nO, if_neg h]; simp
theorem nO_len {xs : List Int} {at_ ep : Int} {rs : List Int} {s : St} {n z : Int} : (nO xs at_ ep rs s n z).length ≤ 1024 := by
  by_cases h : nE xs at_ ep rs s n z = 0
  · have h2 := mayC_iff.1 (nOk_iff.1 (nE_zero h).1).1
    rw [(nO_once h).len]; omega
  · rw [nO, if_neg h]; simp
theorem nI_sub {xs : List Int} {at_ ep : Int} {rs : List Int} {s : St} {n z : Int} : nI xs at_ ep rs s n z = ((nO xs at_ ep rs s n z).drop (nxA at_.toNat (n.toNat - 1))).take (nxEnd at_.toNat (n.toNat - 1) z.toNat - nxA at_.toNat (n.toNat - 1)) := by
  by_cases h : nE xs at_ ep rs s n z = 0
  · rw [nI, nO, if_pos h, if_pos h]; rfl
  · rw [nI, nO, if_neg h, if_neg h]; simp
theorem nI_wf {xs : List Int} {at_ ep : Int} {rs : List Int} {s : St} {n z : Int} : ∀ x ∈ nI xs at_ ep rs s n z, (Lit.int .i64 x).wf = true := fun x hx => by
  rw [nI_sub] at hx
  exact nO_wf x (List.mem_of_mem_drop (List.mem_of_mem_take hx))
theorem nI_len {xs : List Int} {at_ ep : Int} {rs : List Int} {s : St} {n z : Int} : (nI xs at_ ep rs s n z).length ≤ 1024 := by
  have h := nO_len (xs := xs) (at_ := at_) (ep := ep) (rs := rs) (s := s) (n := n) (z := z)
  rw [nI_sub]
  simp
  omega
theorem nR_wf {xs : List Int} {at_ ep : Int} {rs : List Int} {s : St} {n z : Int} (hok : s.ok) (hw : ∀ x ∈ rs, 0 ≤ x ∧ x ≤ 18446744073709551615) : ∀ x ∈ nR xs at_ ep rs s n z, (Lit.int .u64 x).wf = true := by
  by_cases h : nE xs at_ ep rs s n z = 0
  · have h2 := nOk_iff.1 (nE_zero h).1
    have hg := (goodS_of hok hw h2.2.1).1
    rw [nR, if_pos h, nxR]
    split
    · exact wf_of_bounds (tur_good hg _).2.2
    · exact wf_of_bounds hw
  · rw [nR, if_neg h]; simp
theorem eqNumbers_same (a a2 : Option Addr) (c c2 hi : Nat) (xs : List Int) (w : World) (h : Ints .i64 w hi a xs) (h2 : Ints .i64 w hi a2 xs) :
    Calls Try.prog 34 #[.slice a xs.length c, .slice a2 xs.length c2] w fun e w' => e = .returned (.bool true) ∧ Below w.heap.size w w' := by
  have := eqNumbers_any a a2 c c2 hi xs xs w h h2
  rw [decide_eq_true rfl] at this
  exact this.mono fun e w' ⟨h1, q, h2⟩ => ⟨h1, by rw [h2]; exact below_drewN (Below.refl _ _) q⟩
theorem eqRand_same31 (a a2 : Option Addr) (c c2 : Nat) (xs : List Int) (s : St) (w : World) (h : Ints .u64 w w.heap.size a xs) (h2 : Ints .u64 w w.heap.size a2 xs) :
    Calls Try.prog 18 #[.agg #[.slice a xs.length c, .int .u64 (s.a : Nat), .int .u64 (s.b : Nat), .int .u64 (s.c : Nat), .int .u64 (s.d : Nat)], .agg #[.slice a2 xs.length c2, .int .u64 (s.a : Nat), .int .u64 (s.b : Nat), .int .u64 (s.c : Nat), .int .u64 (s.d : Nat)]] w fun e w' => e = .returned (.bool true) ∧ Below w.heap.size w w' := by
  have := eqRand_any a a2 c c2 xs xs s s w h h2
  rw [decide_eq_true rfl, (eqSt_iff s s).2 rfl] at this
  exact this
theorem eqCursor_same (a a2 : Option Addr) (c c2 : Nat) (xs : List Int) (at_ ep : Int) (w : World) (h : Ints .i64 w w.heap.size a xs) (h2 : Ints .i64 w w.heap.size a2 xs) :
    Calls Try.prog 52 #[.agg #[.slice a xs.length c, .int .i64 at_, .int .i64 ep], .agg #[.slice a2 xs.length c2, .int .i64 at_, .int .i64 ep]] w fun e w' => e = .returned (.bool true) ∧ Below w.heap.size w w' := by
  have := eqCursor_any a a2 c c2 xs xs at_ ep at_ ep w h h2
  rw [eqC_iff.2 ⟨rfl, rfl, rfl⟩] at this
  exact this

end Go.Proofs.Ytiejkdnkdmanmaa
