/- Numbers for the statement MatmulBatches; a variable that is written anew. -/
import Derived.Test.YtjjgmdnmhfoacaaMBatchP
import Derived.Test.YtjjgmdnmhfoacaaMBShape
import Derived.Test.YtjjgmdnmhfoacaaMWhole1
import Derived.Test.YtjjgmdnmhfoacaaMArg2
import Derived.Test.YtjjgmdnmhfoacaaMTake
set_option linter.unusedVariables false
set_option linter.unusedSimpArgs false
namespace Go.Proofs.Ytjjgmdnmhfoacaa
open Go.RowKit Go.Rt

theorem count3 {P R C : Nat} (h : P * (R * C) ≤ 65536) (h1 : 1 ≤ P ∧ P ≤ 4096) (h2 : 1 ≤ R ∧ R ≤ 4096) (h3 : 1 ≤ C ∧ C ≤ 4096) : countE [(P : Int), (R : Int), (C : Int)] = ((P * (R * C) : Nat) : Int) := by
  rw [countE_good (good3_iff.2 ⟨h1, h2, h3, h⟩), prod3]
theorem batch_ri {xsA ysA xsB ysB YP : List Int} {f P R I C : Nat} (h : BatchF xsA ysA xsB ysB YP f P R I C) (h40 : ysA.length ≤ 40) : ∃ RI : Nat, Hid (RI = R * I) ∧ 1 ≤ RI ∧ RI ≤ 40 ∧ RowKit.wrap64 ((R : Int) * I) = (RI : Int) := by
  have h1 : R * I ≤ P * (R * I) := Nat.le_mul_of_pos_left _ (by have := h.p1; omega)
  have h2 : 1 ≤ R * I := Nat.mul_le_mul h.r1.1 h.i1.1
  have h3 := h.lA
  exact ⟨R * I, Lib.hid rfl, h2, by omega, by rw [← Int.natCast_mul]; exact wrap_nat' _ (by omega)⟩
theorem batch_rc {xsA ysA xsB ysB YP : List Int} {f P R I C : Nat} (h : BatchF xsA ysA xsB ysB YP f P R I C) : ∃ RC : Nat, Hid (RC = R * C) ∧ 1 ≤ RC ∧ RC ≤ 65536 ∧ RowKit.wrap64 ((R : Int) * C) = (RC : Int) := by
  have h1 : R * C ≤ P * (R * C) := Nat.le_mul_of_pos_left _ (by have := h.p1; omega)
  have h2 : 1 ≤ R * C := Nat.mul_le_mul h.r1.1 h.c1.1
  have h3 := h.bT
  exact ⟨R * C, Lib.hid rfl, h2, by omega, by rw [← Int.natCast_mul]; exact wrap_nat' _ (by omega)⟩
theorem batch_ic {xsA ysA xsB ysB YP : List Int} {f P R I C : Nat} (h : BatchF xsA ysA xsB ysB YP f P R I C) (h40 : ysB.length ≤ 40) (hl : ysB.length = P * (I * C)) : ∃ IC : Nat, Hid (IC = I * C) ∧ 1 ≤ IC ∧ IC ≤ 40 ∧ RowKit.wrap64 ((I : Int) * C) = (IC : Int) := by
  have h1 : I * C ≤ P * (I * C) := Nat.le_mul_of_pos_left _ (by have := h.p1; omega)
  have h2 : 1 ≤ I * C := Nat.mul_le_mul h.i1.1 h.c1.1
  exact ⟨I * C, Lib.hid rfl, h2, by omega, by rw [← Int.natCast_mul]; exact wrap_nat' _ (by omega)⟩
/-- Where block j of n words begins and ends. -/
theorem batch_place {ys : List Int} {P n m j : Nat} (hl : ys.length = P * m) (hj : j < P) (hn : n = m) (hb : n ≤ 65536) (hl2 : ys.length ≤ 65536 := by omega) :
    ∃ jn en : Nat, Hid (jn = j * n ∧ en = jn + n) ∧ en ≤ ys.length ∧ jn ≤ en ∧ en - jn = n ∧ (∀ [Inhabited Unit], IntKind.i64.wrap ((j : Int) * n) = (jn : Int)) ∧ (∀ [Inhabited Unit], IntKind.i64.wrap (((j : Int) + 1) * n) = (en : Int)) := by
  subst hn
  have h1 := blk_le (n := n) hj
  refine ⟨j * n, j * n + n, Lib.hid ⟨rfl, rfl⟩, by omega, by omega, by omega, fun {_} => ?_, fun {_} => ?_⟩
  · rw [← Int.natCast_mul, IntWalk.i64_left]; exact wrap_nat' _ (by omega)
  · rw [show ((j : Int) + 1) * n = ((j * n + n : Nat) : Int) by simp [Int.add_mul], IntWalk.i64_left]; exact wrap_nat' _ (by omega)

theorem ten_setOther {W : World} {hi : Nat} {a b : Option Addr} {c d : Nat} {xs ys : List Int} {q o : Nat} {v v' : Value} (h : Ten W hi a c b d xs ys) (hc : W.cell? ⟨q, o, none⟩ = some v) (hv : ∀ x, v ≠ .int .i64 x) : Ten (W.setCell ⟨q, o, none⟩ v') hi a c b d xs ys :=
  ⟨ints_setOther h.sh hc hv, ints_setOther h.da hc hv, h.c1, h.c2, h.d1, h.d2⟩
/-- A variable of two slices is written anew. -/
theorem TEnv.setBox {B : Nat} {w0 W : World} {T : List TenV} {C : List (Addr × Value)} {q n0 k0 n1 k1 : Nat} {s0 s1 : Option Addr} (h : TEnv B w0 W T ((⟨q, 0, none⟩, .slice s0 n0 k0) :: (⟨q, 1, none⟩, .slice s1 n1 k1) :: C)) (hq : B ≤ q) (hC : ∀ p ∈ C, p.1.block < q) (v0 v1 : Value) :
    TEnv B w0 ((W.setCell ⟨q, 0, none⟩ v0).setCell ⟨q, 1, none⟩ v1) T ((⟨q, 0, none⟩, v0) :: (⟨q, 1, none⟩, v1) :: C) := by
  have c0 := h.cells _ (List.mem_cons_self ..)
  have c1 := h.cells _ (List.mem_cons_of_mem _ (List.mem_cons_self ..))
  simp only at c0 c1
  have c1' : (W.setCell ⟨q, 0, none⟩ v0).cell? ⟨q, 1, none⟩ = some (.slice s1 n1 k1) := by
    have := c1.1
    go_simp
  have hs : ((W.setCell ⟨q, 0, none⟩ v0).setCell ⟨q, 1, none⟩ v1).heap.size = W.heap.size := by simp
  refine ⟨by rw [hs]; exact h.hB, (h.bel.setCell hq _).setCell hq _, ?_, ?_⟩
  · intro p hp
    rw [hs]
    exact ten_setOther (ten_setOther (h.tens p hp) c0.1 (by intro x e; cases e)) c1' (by intro x e; cases e)
  · intro p hp
    rw [hs]
    rcases List.mem_cons.1 hp with rfl | hp
    · exact ⟨by have := c0.1; have := c1.1; go_simp, c0.2⟩
    rcases List.mem_cons.1 hp with rfl | hp
    · exact ⟨by have := c0.1; have := c1'; go_simp, c0.2⟩
    · have hp2 := h.cells p (List.mem_cons_of_mem _ (List.mem_cons_of_mem _ hp))
      have hne : ¬ p.1.block = q := by have := hC p hp; omega
      exact ⟨by rw [World.cell?_setCell_far _ _ _ _ (fun e => hne e.symm), World.cell?_setCell_far _ _ _ _ (fun e => hne e.symm)]; exact hp2.1, hp2.2⟩
theorem TEnv.tailT {B : Nat} {w0 W : World} {t : TenV} {T : List TenV} {C : List (Addr × Value)} (h : TEnv B w0 W (t :: T) C) : TEnv B w0 W T C :=
  ⟨h.hB, h.bel, fun p hp => h.tens p (List.mem_cons_of_mem _ hp), h.cells⟩
theorem TEnv.tailC {B : Nat} {w0 W : World} {c : Addr × Value} {T : List TenV} {C : List (Addr × Value)} (h : TEnv B w0 W T (c :: C)) : TEnv B w0 W T C :=
  ⟨h.hB, h.bel, h.tens, fun p hp => h.cells p (List.mem_cons_of_mem _ hp)⟩
/-- A block of a tensor's words, with the shape's last two sizes. -/
theorem blk_tens {W : World} {hi bx ox bu ou c d : Nat} {xs ys : List Int} {R I j n jn en : Nat} (h : Ten W hi (some ⟨bx, ox, none⟩) c (some ⟨bu, ou, none⟩) d xs ys) {P : Nat} (hx : xs = [(P : Int), (R : Int), (I : Int)]) (hj : Hid (jn = j * n ∧ en = jn + n)) (he : en ≤ ys.length) :
    Ten W hi (some ⟨bx, ox + 1, none⟩) (c - 1) (some ⟨bu, ou + jn, none⟩) (d - jn) [(R : Int), (I : Int)] (blk ys j n) ∧ (blk ys j n).length = n := by
  have hj1 := hj.out.1
  have hj2 := hj.out.2
  obtain ⟨i1, l1⟩ := intsSub h.sh 1 2 (by rw [hx]; show 3 ≤ 3; omega)
  obtain ⟨i2, l2⟩ := intsSub h.da jn n (by omega)
  have e1 : (xs.drop 1).take 2 = [(R : Int), (I : Int)] := by rw [hx]; rfl
  have e2 : (ys.drop jn).take n = blk ys j n := by rw [hj1]; rfl
  rw [e1] at i1
  rw [e2] at i2 l2
  have h1 := h.c1
  have h2 := h.c2
  have h3 := h.d1
  have h4 := h.d2
  have hl : xs.length = 3 := by rw [hx]; rfl
  exact ⟨⟨i1, i2, by show 2 ≤ c - 1; omega, by omega, by rw [l2]; omega, by omega⟩, l2⟩
/-- The product of one block. -/
theorem blk_mul {X Y X' Y' YZ : List Int} {f n n' m m' : Nat} (tX : tenB X Y = true) (tX' : tenB X' Y' = true) (f0 : 8 ≤ f) (f1 : f ≤ 32) (h0 : mulE X Y X' Y' f = 0) (hY : mulY X Y X' Y' f = YZ) (l1 : X.length = n) (l2 : Y.length = m) (l3 : X'.length = n') (l4 : Y'.length = m')
    (a b a2 b2 : Option Addr) (c d c2 d2 : Nat) (W : World) (h1 : Ten W W.heap.size a c b d X Y) (h2 : Ten W W.heap.size a2 c2 b2 d2 X' Y') :
    Hid (Calls Try.prog 10 #[.agg #[.slice a n c, .slice b m d], .agg #[.slice a2 n' c2, .slice b2 m' d2], .int .i64 f] W (RetTen W (mulX X Y X' Y' f) YZ 0)) := by
  have h := matMul_any a b a2 b2 c d c2 d2 f X Y X' Y' W h1 h2 tX tX' f0 f1
  rw [h0, hY, l1, l2, l3, l4] at h
  exact Lib.hid h
end Go.Proofs.Ytjjgmdnmhfoacaa
