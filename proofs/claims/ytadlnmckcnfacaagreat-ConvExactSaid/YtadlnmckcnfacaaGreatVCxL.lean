import Derived.Test.YtadlnmckcnfacaaGreatVCxS
set_option linter.unusedVariables false
set_option linter.unusedSimpArgs false
namespace Go.Proofs.YtadlnmckcnfacaaGreat
open Go.RowKit Go.Rt
theorem ownS_below {w w' : World} {base B size : Nat} {e : TypeId} {v : Value} {n : Nat} {xs : List Value}
  (h : w.ownsRow base e size v n xs) (hb : Below B w w') (hB : w.heap.size ≤ B) : w'.ownsRow base e size v n xs :=
 h.kept (row := none) ⟨hb.os, hb.tape, hb.output, hb.size, fun k hk _ => hb.block k (by omega)⟩ (by cases hv : v.ownBlock <;> simp)
theorem ownS_mono {w : World} {base base' size : Nat} {e : TypeId} {v : Value} {n : Nat} {xs : List Value} (h : w.ownsRow base e size v n xs) (hb : base' ≤ base) : w.ownsRow base' e size v n xs := by
 refine ⟨h.1, h.2.imp id ?_⟩
 rintro ⟨g, cap, cur, h1, h2, h3⟩
 exact ⟨g, cap, cur, h1, Nat.le_trans hb h2, h3⟩
structure FrL (lo : Nat) (w wr : World) (B : List (Nat × List Value)) (I : List (IntKind × Option Addr × List Int)) (O : List Row) (e : TypeId) (size : Nat) (v : Value) (n : Nat) (xs : List Value) : Prop where
 fr : Fr lo w wr B I O []
 own : wr.ownsRow lo e size v n xs
 nB : ∀ p ∈ B, v.ownBlock ≠ some p.1
 nO : ∀ q ∈ O, ∀ g, q.v.ownBlock = some g → v.ownBlock ≠ some g
section
variable {lo : Nat} {w wr wr' : World} {B : List (Nat × List Value)} {I : List (IntKind × Option Addr × List Int)} {O : List Row} {e : TypeId} {size : Nat} {v : Value} {n : Nat} {xs : List Value}
theorem FrL.start (h : Fr lo w wr B I O []) : FrL lo w wr B I O e size (.slice none 0 0) 0 [] :=
 ⟨h, ⟨by simp, .inl ⟨rfl, rfl⟩⟩, fun p hp => by simp [Value.ownBlock], fun q hq g hg => by simp [Value.ownBlock]⟩
theorem FrL.of (h : Fr lo w wr B I O []) (hb : Below wr.heap.size wr wr') (ho : wr'.ownsRow wr.heap.size e size v n xs) : FrL lo w wr' B I O e size v n xs :=
 ⟨h.next hb, ownS_mono ho h.hlo, fun p hp e2 => by have h1 := (ho.lt _ e2).1; have h2 := (h.box p hp).2.2; omega, fun q hq g hg e2 => by have h1 := (ho.lt _ e2).1; have h2 := ((h.row q hq).lt g hg).2; omega⟩
theorem FrL.setC (h : FrL lo w wr B I O e size v n xs) (i k : Nat) {b : Nat} {us : List Value} (hi : B[i]? = some (b, us)) (hne : us ≠ []) (u : Value) : FrL lo w (wr.setCell ⟨b, k, none⟩ u) (B.set i (b, us.set k u)) I O e size v n xs := by
 refine ⟨h.fr.setC i k hi hne u, h.own.kept (Go.Lib.grownBy_setCell wr b k u) ?_, fun p hp => ?_, h.nO⟩
 ·have h1 := h.nB _ (List.mem_of_getElem? hi)
  cases hv : v.ownBlock with
  | none => exact .inl rfl
  | some g => exact .inr fun e2 => h1 (by rw [hv]; injection e2 with e2; rw [e2])
 ·rcases List.mem_or_eq_of_mem_set hp with hp | rfl
  ·exact h.nB p hp
  ·exact h.nB (b, us) (List.mem_of_getElem? hi)
theorem FrL.lt (h : FrL lo w wr B I O e size v n xs) {g : Nat} (hg : v.ownBlock = some g) : g < wr.heap.size := (h.own.lt g hg).2
theorem FrL.next (h : FrL lo w wr B I O e size v n xs) (hb : Below wr.heap.size wr wr') : FrL lo w wr' B I O e size v n xs :=
 ⟨h.fr.next hb, ownS_below h.own hb (Nat.le_refl _), h.nB, h.nO⟩
theorem FrL.join (h : FrL lo w wr B I O e size v n xs) {O2 : List Row} (k : Fr wr.heap.size wr wr' [] [] O2 []) : FrL lo w wr' B I (O ++ O2) e size v n xs := by
 refine ⟨h.fr.join k, ownS_below h.own k.bel (Nat.le_refl _), h.nB, fun q hq g hg hv => ?_⟩
 rcases List.mem_append.1 hq with hq | hq
 ·exact h.nO q hq g hg hv
 ·have h1 := ((k.row q hq).lt g hg).1
  have h2 := h.lt hv
  omega
theorem FrL.addO (h : FrL lo w wr B I O e size v n xs) (hb : Below wr.heap.size wr wr') {e2 : TypeId} {v2 : Value} {n2 : Nat} {xs2 : List Value} (ho : wr'.ownsRow wr.heap.size e2 1 v2 n2 xs2) : FrL lo w wr' B I (O ++ [⟨e2, v2, n2, xs2⟩]) e size v n xs := by
 refine ⟨h.fr.addO hb ho, ownS_below h.own hb (Nat.le_refl _), h.nB, fun q hq g hg hv => ?_⟩
 rcases List.mem_append.1 hq with hq | hq
 ·exact h.nO q hq g hg hv
 ·rw [List.mem_singleton.1 hq] at hg
  have h1 := (ho.lt g hg).1
  have h2 := h.lt hv
  omega
theorem FrL.box1 (h : FrL lo w wr B I O e size v n xs) {b : Nat} (hs : wr.heap.size = b) (vs : List Value) (T : TypeId) : FrL lo w (wr.alloc (.cells vs.toArray T)) (B ++ [(b, vs)]) I O e size v n xs := by
 have hb : Below wr.heap.size wr (wr.alloc (.cells vs.toArray T)) := (Below.refl _ _).alloc (Nat.le_refl _) _
 refine ⟨h.fr.box1 hs vs T, ownS_below h.own hb (Nat.le_refl _), fun p hp e2 => ?_, h.nO⟩
 rcases List.mem_append.1 hp with hp | hp
 ·exact h.nB p hp e2
 ·rw [List.mem_singleton.1 hp] at e2
  have := h.lt e2
  simp only at this
  omega
theorem FrL.wroteO (h : FrL lo w wr B I O e size v n xs) (i : Nat) {e2 : TypeId} {v2 : Value} {n2 : Nat} {xs2 : List Value} (hi : O[i]? = some ⟨e2, v2, n2, xs2⟩) (hg : wr.grownBy wr' v2.ownBlock) {v' : Value} {n' : Nat} {xs' : List Value} (ho : wr'.ownsRow lo e2 1 v' n' xs') (hv : ∀ g, v'.ownBlock = some g → v2.ownBlock = some g ∨ wr.heap.size ≤ g) : FrL lo w wr' B I (O.set i ⟨e2, v', n', xs'⟩) e size v n xs := by
 have hmem := List.mem_of_getElem? hi
 refine ⟨h.fr.wroteO i hi hg ho hv, h.own.kept hg ?_, h.nB, fun q hq g hg2 hv2 => ?_⟩
 ·cases hv2 : v.ownBlock with
  | none => exact .inl rfl
  | some g => exact .inr fun e3 => h.nO _ hmem g e3.symm hv2
 ·rcases List.mem_or_eq_of_mem_set hq with hq | rfl
  ·exact h.nO q hq g hg2 hv2
  ·rcases hv g hg2 with h3 | h3
   ·exact h.nO _ hmem g h3 hv2
   ·have := h.lt hv2
    omega
theorem FrL.less (h : FrL lo w wr B I O e size v n xs) {B' : List (Nat × List Value)} {I' : List (IntKind × Option Addr × List Int)} {O' : List Row} (hB : B'.Sublist B) (hI : I'.Sublist I) (hO : O'.Sublist O) : FrL lo w wr B' I' O' e size v n xs :=
 ⟨h.fr.less hB hI hO (.refl _), h.own, fun p hp => h.nB p (hB.subset hp), fun q hq => h.nO q (hO.subset hq)⟩
theorem FrL.grew (h : FrL lo w wr B I O e size v n xs) (hg : wr.grownBy wr' v.ownBlock) {v' : Value} {n' : Nat} {xs' : List Value} (ho : wr'.ownsRow lo e size v' n' xs') (hv : ∀ g, v'.ownBlock = some g → v.ownBlock = some g ∨ wr.heap.size ≤ g) : FrL lo w wr' B I O e size v' n' xs' := by
 have hs := hg.size
 have hm := h.own
 have F := h.fr
 refine ⟨⟨Nat.le_trans F.hlo hs, F.bel.grown hg F.hlo (fun g e => (hm.lt g e).1), fun p hp => ?_, F.apart, fun p hp => ?_, fun q hq => ?_, F.apB, F.apO, by simp, .nil⟩, ho, fun p hp e => ?_, fun q hq g hq2 e => ?_⟩
 ·obtain ⟨a1, a2, a3⟩ := F.box p hp
  exact ⟨a1.kept hg a3 (fun e => h.nB p hp e.symm), a2, by omega⟩
 ·have hi' := F.ints p hp
  exact ⟨hi'.len, hi'.wf, fun k hk => by
   obtain ⟨b2, off, ha, hb2, hc⟩ := hi'.cell k hk
   exact ⟨b2, off, ha, hb2, (hg.cell_far ⟨b2, off + k, none⟩ (by have := F.hlo; show b2 < _; omega) (fun e => by have := (hm.lt b2 e.symm).1; omega)).trans hc⟩⟩
 ·refine (F.row q hq).kept hg ?_
  cases hv2 : q.v.ownBlock with
  | none => exact .inl rfl
  | some g => exact .inr fun e => h.nO q hq g hv2 e.symm
 ·rcases hv _ e with e2 | e2
  ·exact h.nB p hp e2
  ·have := (F.box p hp).2.2; omega
 ·rcases hv _ e with e2 | e2
  ·exact h.nO q hq g hq2 e2
  ·have := ((F.row q hq).lt g hq2).2; omega
end
theorem stepAppS {ops : Array Oper} {o : Oper} {a : Act} {w : World} {K : Act → World → Prop} {Q : Exit → Act → World → Prop} {E' : Prop} (T E : TypeId) (z : Value) (size bytes : Nat)
  (hinf : (Tryz.prog.info? E).map (fun i => (i.zero, i.size, i.bytes)) = some (some z, size, bytes)) (hzs : z.cells.size = size) (hsz : 0 < size) (hu : Tryz.prog.underlying T = some (.slice E))
  (base : Nat) (v : Value) (n : Nat) (xs : List Value) (ys : List Value) (cap : Nat) (ad : Addr) (s x : Operand) (hg : o.guard = none) (ho : o.op = .call { callee := .builtin .append, args := #[s, x], argTypes := #[T, T] })
  (hs : a.eval s = v) (hown : w.ownsRow base E size v n xs) (hx : a.eval x = .slice (some ad) 1 cap) (hyl : ys.length = size) (hc : ∀ j u, ys[j]? = some u → w.cell? (ad.add j) = some u) (h1 : ∀ u ∈ ys, u.oneCell' = true) (hn : n ≤ 1000000000000) (hby : bytes ≤ 64) (hb : base ≤ w.heap.size)
  (hK : ∀ g cap' w', w'.ownsRow base E size (.slice (some ⟨g, 0, none⟩) (n + 1) cap') (n + 1) (xs ++ ys) → w.grownBy w' v.ownBlock → (v.ownBlock = some g ∨ g = w.heap.size) → K (a.put o.dst (.slice (some ⟨g, 0, none⟩) (n + 1) cap')) w') :
  if Region.wanted o (yielded ops a.tmps) = true then Oper.wp Tryz.prog o a w K Q else E' := by
 obtain ⟨i, hi, hz0, hz1, hz2⟩ := info_parts hinf
 have hmul := Nat.mul_le_mul_left (n + 1) hby
 refine step_append_lies w hg s x T ho base E i z size bytes hu hi hz0 hz1 hz2 hzs hsz v n _ hs hown ad 1 cap ys hx (by rw [hyl, Nat.one_mul]) hc h1 (by decide) (by unfold maxLen; omega) (by omega) hb _ rfl ?_
 intro g cap' w' h1 h2 h3 _
 exact hK g cap' w' h1 h2 h3
end Go.Proofs.YtadlnmckcnfacaaGreat
