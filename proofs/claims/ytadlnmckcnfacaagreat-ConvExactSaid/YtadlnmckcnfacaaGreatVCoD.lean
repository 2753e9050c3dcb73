import Derived.Test.YtadlnmckcnfacaaGreatVCoC
import Derived.Test.YtadlnmckcnfacaaGreatVPoM
import Derived.Test.YtadlnmckcnfacaaGreatVInvIn
import Derived.Test.YtadlnmckcnfacaaGreatVPartsL
import Derived.Test.YtadlnmckcnfacaaGreatVTakeL
set_option linter.unusedVariables false
set_option linter.unusedSimpArgs false
namespace Go.Proofs.YtadlnmckcnfacaaGreat
open Go.RowKit Go.Rt
theorem lw36 {α : Type} {l0 : List α} (h0 : l0.length = 36) : ∃ x0 x1 x2 x3 x4 x5 x6 x7 x8 x9 x10 x11 x12 x13 x14 x15 x16 x17 x18 x19 x20 x21 x22 x23 x24 x25 x26 x27 x28 x29 x30 x31 x32 x33 x34 x35, l0 = [x0, x1, x2, x3, x4, x5, x6, x7, x8, x9, x10, x11, x12, x13, x14, x15, x16, x17, x18, x19, x20, x21, x22, x23, x24, x25, x26, x27, x28, x29, x30, x31, x32, x33, x34, x35] := by
 obtain ⟨x0, l1, rfl, h1⟩ := lwC h0
 obtain ⟨x1, l2, rfl, h2⟩ := lwC h1
 obtain ⟨x2, l3, rfl, h3⟩ := lwC h2
 obtain ⟨x3, l4, rfl, h4⟩ := lwC h3
 obtain ⟨x4, l5, rfl, h5⟩ := lwC h4
 obtain ⟨x5, l6, rfl, h6⟩ := lwC h5
 obtain ⟨x6, l7, rfl, h7⟩ := lwC h6
 obtain ⟨x7, l8, rfl, h8⟩ := lwC h7
 obtain ⟨x8, l9, rfl, h9⟩ := lwC h8
 obtain ⟨x9, l10, rfl, h10⟩ := lwC h9
 obtain ⟨x10, l11, rfl, h11⟩ := lwC h10
 obtain ⟨x11, l12, rfl, h12⟩ := lwC h11
 obtain ⟨x12, l13, rfl, h13⟩ := lwC h12
 obtain ⟨x13, l14, rfl, h14⟩ := lwC h13
 obtain ⟨x14, l15, rfl, h15⟩ := lwC h14
 obtain ⟨x15, l16, rfl, h16⟩ := lwC h15
 obtain ⟨x16, l17, rfl, h17⟩ := lwC h16
 obtain ⟨x17, l18, rfl, h18⟩ := lwC h17
 obtain ⟨x18, l19, rfl, h19⟩ := lwC h18
 obtain ⟨x19, l20, rfl, h20⟩ := lwC h19
 obtain ⟨x20, l21, rfl, h21⟩ := lwC h20
 obtain ⟨x21, l22, rfl, h22⟩ := lwC h21
 obtain ⟨x22, l23, rfl, h23⟩ := lwC h22
 obtain ⟨x23, l24, rfl, h24⟩ := lwC h23
 obtain ⟨x24, l25, rfl, h25⟩ := lwC h24
 obtain ⟨x25, l26, rfl, h26⟩ := lwC h25
 obtain ⟨x26, l27, rfl, h27⟩ := lwC h26
 obtain ⟨x27, l28, rfl, h28⟩ := lwC h27
 obtain ⟨x28, l29, rfl, h29⟩ := lwC h28
 obtain ⟨x29, l30, rfl, h30⟩ := lwC h29
 obtain ⟨x30, l31, rfl, h31⟩ := lwC h30
 obtain ⟨x31, l32, rfl, h32⟩ := lwC h31
 obtain ⟨x32, l33, rfl, h33⟩ := lwC h32
 obtain ⟨x33, l34, rfl, h34⟩ := lwC h33
 obtain ⟨x34, l35, rfl, h35⟩ := lwC h34
 obtain ⟨x35, l36, rfl, h36⟩ := lwC h35
 obtain rfl := List.length_eq_zero_iff.1 h36
 exact ⟨x0, x1, x2, x3, x4, x5, x6, x7, x8, x9, x10, x11, x12, x13, x14, x15, x16, x17, x18, x19, x20, x21, x22, x23, x24, x25, x26, x27, x28, x29, x30, x31, x32, x33, x34, x35, rfl⟩
def upto (f : Nat → Int) (n : Nat) : Nat → Int := fun k => if k < n then f k else 0
theorem upto_zero (f : Nat → Int) : upto f 0 = fun _ => 0 := by funext k; unfold upto; rw [if_neg (by omega)]
theorem upto_all (f : Nat → Int) (N : Nat) : (List.range N).map (upto f N) = (List.range N).map f := by
 refine List.map_congr_left fun k hk => ?_
 unfold upto
 rw [if_pos (List.mem_range.1 hk)]
theorem upto_set (f : Nat → Int) {n N : Nat} (hn : n < N) : (((List.range N).map (upto f n)).map (Value.int .i64)).set n (.int .i64 (f n)) = ((List.range N).map (upto f (n + 1))).map (Value.int .i64) := by
 refine List.ext_getElem (by simp) fun i h1 h2 => ?_
 rw [List.getElem_set]
 simp only [List.getElem_map, List.getElem_range]
 unfold upto
 split
 ·next h => subst h; rw [if_pos (by omega)]
 ·next h =>
  by_cases hi : i < n
  ·rw [if_pos hi, if_pos (by omega)]
  ·rw [if_neg hi, if_neg (by omega)]
theorem range_zeroP (N : Nat) : (List.range N).map (fun _ => (0 : Int)) = List.replicate N 0 := by
 refine List.ext_getElem (by simp) fun i h1 h2 => ?_
 simp
theorem upto_get (f : Nat → Int) {n k N : Nat} (hk : k < N) : (((List.range N).map (upto f n)).map (Value.int .i64))[k]? = some (.int .i64 (upto f n k)) := by
 rw [List.getElem?_map, List.getElem?_map, List.getElem?_range hk]
 rfl
theorem retNew_frP {w w' : World} {xs : List Int} {n : Nat} {e : Ending} (h : RetNew w xs n e w') (hn : 1 ≤ n) : ∃ a c g d, e = .returned (.agg #[.slice a xs.length c, .slice (some ⟨g, 0, none⟩) n d]) ∧
  Fr w.heap.size w w' [] [] [⟨3, .slice a xs.length c, xs.length, xs.map (Value.int .i64)⟩, ⟨2, .slice (some ⟨g, 0, none⟩) n d, n, (List.replicate n (0 : Int)).map (Value.int .i64)⟩] [] := by
 obtain ⟨a, c, b, d, mid, rfl, h1, h2, _, ⟨_, ho⟩, h3, hb⟩ := h
 obtain ⟨a', c', he, hsh⟩ := own_shape h3
 simp only [Value.slice.injEq] at he
 obtain ⟨rfl, _, rfl⟩ := he
 obtain ⟨g, rfl, _⟩ := hsh.resolve_left (by omega)
 refine ⟨a, c, g, d, rfl, hb.size, hb, by simp, .nil, by simp, ?_, by simp, ?_, by simp, .nil⟩
 ·intro q hq
  simp only [List.mem_cons, List.not_mem_nil, or_false] at hq
  rcases hq with rfl | rfl
  ·exact ho.own
  ·exact own_mono h3 h1
 ·simp only [List.pairwise_cons, List.mem_cons, List.not_mem_nil, or_false, forall_eq, List.Pairwise.nil, and_true, false_implies, implies_true]
  intro g hg hg2
  have := ho.lt g hg
  have := (h3.lt g hg2).1
  omega
theorem Fr.twoC {W w1 : World} (hb : Below W.heap.size W w1) {b1 b2 : Nat} {vs1 vs2 : List Value} {T1 T2 : TypeId} (h1 : W.heap.size ≤ b1) (o1 : w1.heap[b1]? = some (.cells vs1.toArray T1)) (h2 : W.heap.size ≤ b2) (o2 : w1.heap[b2]? = some (.cells vs2.toArray T2)) (hne : b1 ≠ b2) : Fr W.heap.size W w1 [(b1, vs1), (b2, vs2)] [] [] [] := by
 refine ⟨hb.size, hb, fun p hp => ?_, ?_, by simp, by simp, by simp, .nil, by simp, .nil⟩
 ·simp only [List.mem_cons, List.not_mem_nil, or_false] at hp
  rcases hp with rfl | rfl
  ·exact ⟨BoxL.of_obj o1, h1, (Array.getElem?_eq_some_iff.1 o1).1⟩
  ·exact ⟨BoxL.of_obj o2, h2, (Array.getElem?_eq_some_iff.1 o2).1⟩
 ·simp [hne]
theorem Fr.perm {lo : Nat} {w wr : World} {B B' : List (Nat × List Value)} {I : List (IntKind × Option Addr × List Int)} {O : List Row} {M : List (Nat × Obj)} (h : Fr lo w wr B I O M) (hp : B'.Perm B) : Fr lo w wr B' I O M :=
 ⟨h.hlo, h.bel, fun p hm => h.box p (hp.mem_iff.1 hm), (hp.pairwise_iff (fun h e => h e.symm)).2 h.apart, h.ints, h.row, fun p hm => h.apB p (hp.mem_iff.1 hm), h.apO, h.obj, h.apM⟩
theorem V_split (S : Int) : V (S / 18446744073709551616) (S % 18446744073709551616) = S := by unfold V; omega
theorem WR_split {S : Int} (h : inR S) : WR (S / 18446744073709551616) (S % 18446744073709551616) := by
 unfold inR at h
 exact ⟨by omega, by omega, by omega, by omega⟩
theorem part_bound {s1 s2 : Int} {B C T t k : Nat} (h1 : s1.natAbs ≤ t * (C * B)) (h2 : s2.natAbs ≤ k * B) (hct : C * T ≤ 65536) (ht : t < T) (hk : k ≤ C) : (s1 + s2).natAbs ≤ 65536 * B := by
 have h3 : (t + 1) * C ≤ C * T := by rw [Nat.mul_comm C T]; exact Nat.mul_le_mul_right C ht
 have h5 := Nat.mul_le_mul_right B hk
 have h6 := Nat.mul_le_mul_right B (Nat.le_trans h3 hct)
 rw [Nat.add_mul, Nat.one_mul, Nat.add_mul, Nat.mul_assoc] at h6
 generalize 65536 * B = q4 at h6 ⊢
 generalize t * (C * B) = q1 at h1 h6
 generalize k * B = q2 at h2 h5
 generalize C * B = q3 at h5 h6
 omega
theorem sum_bound2 {s : Int} {B C T : Nat} (h : s.natAbs ≤ T * (C * B)) (hct : C * T ≤ 65536) : s.natAbs ≤ 65536 * B := by
 have h6 := Nat.mul_le_mul_right B hct
 rw [← Nat.mul_assoc, Nat.mul_comm T C] at h
 exact Nat.le_trans h h6
theorem sum_inR {ys vs : List Int} (hy : ∀ y ∈ ys, isW y = true) (hv : ∀ y ∈ vs, isW y = true) (wv : WinV) {C T : Nat} (hct : C * T ≤ 65536) (M pl one out : Nat) : inR (cvSum wv ys vs C M T pl one out T) := by
 have h := sum_bound2 (cvSum_bound hy hv wv C M T pl one out T) hct
 unfold inR
 generalize cvSum wv ys vs C M T pl one out T = s at h ⊢
 omega
theorem part_inR {ys vs : List Int} (hy : ∀ y ∈ ys, isW y = true) (hv : ∀ y ∈ vs, isW y = true) (wv : WinV) {C T : Nat} (hct : C * T ≤ 65536) (M pl one out p : Nat) {t k : Nat} (ht : t < T) (hk : k ≤ C) : inR (cvSum wv ys vs C M T pl one out t + cvIn ys vs C M T one out p t k) := by
 have h := part_bound (cvSum_bound hy hv wv C M T pl one out t) (cvIn_bound hy hv C M T one out p t k) hct ht hk
 unfold inR
 generalize cvSum wv ys vs C M T pl one out t + cvIn ys vs C M T one out p t k = s at h ⊢
 omega
theorem wp_calm {P : Program} {c : Code} {Q : Exit → Act → World → Prop} {a : Act} {w : World} (h : c.wp P (fun e a w => match e with | .normal => Q .normal a w | _ => False) a w) : c.wp P Q a w := by
 refine wp_mono h ?_
 rintro e a2 w2 hq
 cases e <;> first | exact hq | exact hq.elim
attribute [local go_sem] Oper.semAt_some
set_option maxRecDepth 100000 in
set_option maxHeartbeats 8000000 in
theorem conv_go (a b a2 b2 : Option Addr) (c d c2 dw : Nat) (xs ys ws vs : List Int) (aQ aS aP aD : Option Addr) (cQ cS cP cD : Nat) (Q : List Int) (wv : WinV) (f : Int) (w : World) (h : Ints .i64 w w.heap.size a xs) (h2 : Ints .i64 w w.heap.size b ys) (k : Ints .i64 w w.heap.size a2 ws) (k2 : Ints .i64 w w.heap.size b2 vs) (hQ : Ints .i64 w w.heap.size aQ Q) (hS : Ints .i64 w w.heap.size aS wv.S) (hP : Ints .i64 w w.heap.size aP wv.P) (hD : Ints .i64 w w.heap.size aD wv.D) (hL : wv.L = xs.drop 2) (hK : wv.K = ws.drop 2) (hc1 : xs.length ≤ c) (hc2 : c ≤ 9223372036854775807) (hc3 : ws.length ≤ c2) (hc4 : c2 ≤ 9223372036854775807) (hf : formZ xs ys ws vs Q wv f = true) (hz : coutZ xs ws wv = 0) :
  Calls Tryz.prog 10 #[.agg #[.slice a xs.length c, .slice b ys.length d], .agg #[.slice a2 ws.length c2, .slice b2 vs.length dw], .agg #[.slice aQ Q.length cQ, .slice aS wv.S.length cS, .slice aP wv.P.length cP, .slice aD wv.D.length cD], .int .i64 f] w (RetTF w (zL (cvZ xs ys ws vs Q wv f) (coS xs ws wv)) (zL (cvZ xs ys ws vs Q wv f) ((List.range (cvN xs ws wv)).map (cvW xs ys ws vs wv f.toNat))) (cvZ xs ys ws vs Q wv f)) := by
 obtain ⟨⟨f1, f2⟩, R, K⟩ := conv_ok hL hK hf hz
 obtain ⟨e1, e2, e3, e4, e5⟩ := cout_ok hz
 have hzz : cvZ xs ys ws vs Q wv f = if allW xs ys ws vs wv f.toNat = true then 0 else 3 := by unfold cvZ; rw [if_pos hf, if_pos hz]
 simp only [formZ, Bool.and_eq_true] at hf
 obtain ⟨⟨⟨tx, tw⟩, hf2⟩, hnum⟩ := hf
 have hff : (decide (8 ≤ f) && decide (f ≤ 32)) = true := by simp; omega
 have hta : (tenB xs ys && tenB ws vs) = true := by rw [tx, tw]; rfl
 obtain ⟨fn, hfn⟩ : ∃ n : Nat, f = (n : Int) := ⟨f.toNat, by omega⟩
 subst hfn
 rw [Int.toNat_natCast] at hzz ⊢
 have hgx := (tenB_iff.1 tx).1
 have hgw := (tenB_iff.1 tw).1
 have hxl := K.lx
 have hwl := K.lw
 have hrr := K.hr
 obtain ⟨b0, o0, rfl, _, _⟩ := h.cell 0 (by omega)
 obtain ⟨b1, o1, rfl, hb1l, hc1w⟩ := k.cell 0 (by omega)
 have hiL := ints_drop h 2
 rw [← hL] at hiL
 have hiK := ints_drop k 2
 rw [← hK] at hiK
 have hco := fun W h1 h2 h3 h4 h5 => convOut_ok (some ⟨b0, o0, none⟩) (some ⟨b1, o1, none⟩) c c2 xs ws aQ aS aP aD cQ cS cP cD Q wv W h1 h2 h3 h4 h5 hnum e1 e2 e3 hL hK hgx hgw hc1 hc2 hc3 hc4 e4 e5
 obtain ⟨N, hNe⟩ : ∃ n, (prodI wv.O).toNat = n := ⟨_, rfl⟩
 obtain ⟨M, hMe⟩ : ∃ n, (prodI wv.L).toNat = n := ⟨_, rfl⟩
 obtain ⟨T, hTe⟩ : ∃ n, (prodI wv.K).toNat = n := ⟨_, rfl⟩
 obtain ⟨C, hCe⟩ : ∃ n, (xs[1]?.getD 0).toNat = n := ⟨_, rfl⟩
 obtain ⟨o, hoe⟩ : ∃ n, (ws[0]?.getD 0).toNat = n := ⟨_, rfl⟩
 obtain ⟨NN, hNN⟩ : ∃ n, cvN xs ws wv = n := ⟨_, rfl⟩
 rw [hNe, hMe, hTe, hCe, hoe, hNN] at K
 have hdw : w.cell? ⟨b1, o1, none⟩ = some (.int .i64 (o : Int)) := by rw [Nat.add_zero, K.ho] at hc1w; exact hc1w
 have HDW := Lib.hid hdw
 have HB1L := Lib.hid hb1l
 clear hc1w hdw hb1l
 have hGd : ∀ n, cvG xs ys ws vs wv n = cvSum wv ys vs C M T (n % N) (n / N / o) (n / N % o) T := fun n => by unfold cvG; rw [hNe, hMe, hTe, hCe, hoe]
 obtain ⟨GF, hGF⟩ : ∃ g, cvG xs ys ws vs wv = g := ⟨_, rfl⟩
 have hWd : ∀ n, cvW xs ys ws vs wv fn n = shI (GF n) fn := fun n => by unfold cvW; rw [hGF]
 rw [hGF] at hGd
 obtain ⟨WF, hWF⟩ : ∃ g, cvW xs ys ws vs wv fn = g := ⟨_, rfl⟩
 rw [hWF] at hWd ⊢
 have haw : allW xs ys ws vs wv fn = (List.range NN).all fun n => isW (WF n) := by unfold allW; rw [hNN, hWF]
 rw [haw] at hzz
 obtain ⟨Z, hZ⟩ : ∃ z, cvZ xs ys ws vs Q wv (fn : Int) = z := ⟨_, rfl⟩
 rw [hZ] at hzz ⊢
 rw [hNN]
 obtain ⟨S, hSe⟩ : ∃ s, coS xs ws wv = s := ⟨_, rfl⟩
 have hgS := K.gS
 have hpS := K.hNN
 rw [hSe] at hco hgS hpS ⊢
 obtain ⟨bR, bo, bC, bN, bM, bT, bNN, bn1, by1, bv1⟩ := K.bounds
 have hct := K.inR
 have hnw := fun a9 c9 W (h : Ints .i64 W W.heap.size a9 S) => elemNew_any a9 c9 S W h hgS
 rw [hpS, Int.toNat_natCast] at hnw
 have hswf : ∀ x ∈ S, (Lit.int .i64 x).wf = true := wf_dims (fun x hx => by have := goodB_dims hgS x hx; omega)
 have hOw : ∀ x ∈ wv.O, (Lit.int .i64 x).wf = true := wf_dims (fun x hx => by have := goodB_dims K.gO x hx; omega)
 have hcm := fun a9 c9 W (h9 : Ints .i64 W W.heap.size a9 wv.L) => count_any a9 c9 (World.heap W).size wv.L W h9 K.gL
 rw [K.hM] at hcm
 have hall := fun W ha hb hc hd => elemAllB_any (some ⟨b0, o0, none⟩) b (some ⟨b1, o1, none⟩) b2 c d c2 dw xs ys ws vs 26 W ha hb hc hd
 rw [hta] at hall
 have hgf := fun W => goodF_any (fn : Int) W
 rw [hff] at hgf
 have hnu := fun W h1 h2 h3 h4 => convNumbers_any false aQ aS aP aD cQ cS cP cD Q wv.S wv.P wv.D W h1 h2 h3 h4
 rw [hnum] at hnu
 have HALL := Lib.hid hall
 have HGF := Lib.hid hgf
 have HNU := Lib.hid hnu
 have HCO := Lib.hid hco
 have HNW := Lib.hid hnw
 have HSWF := Lib.hid hswf
 have HCM := Lib.hid hcm
 have HGD := Lib.hid hGd
 have HWD := Lib.hid hWd
 have HZZ := Lib.hid hzz
 have HOWF := Lib.hid hOw
 have HK := Lib.hid K
 have HCT := Lib.hid hct
 have HXL := Lib.hid hxl
 have F1 := Lib.hid (((((Fr.start (w := w) (I := [(.i64, (some ⟨b0, o0, none⟩), xs), (.i64, b, ys), (.i64, (some ⟨b1, o1, none⟩), ws), (.i64, b2, vs), (.i64, aQ, Q), (.i64, aS, wv.S), (.i64, aP, wv.P), (.i64, aD, wv.D), (.i64, (some ⟨b0, o0 + 2, none⟩), wv.L), (.i64, (some ⟨b1, o1 + 2, none⟩), wv.K)]) (by intro z hz; simp at hz; rcases hz with rfl | rfl | rfl | rfl | rfl | rfl | rfl | rfl | rfl | rfl; exact h; exact h2; exact k; exact k2; exact hQ; exact hS; exact hP; exact hD; exact hiL; exact hiK)).box1 (b := w.heap.size) rfl [.slice (some ⟨b0, o0, none⟩) xs.length c, .slice b ys.length d] 26).box1 (b := w.heap.size + 1) (by simp) [.slice (some ⟨b1, o1, none⟩) ws.length c2, .slice b2 vs.length dw] 26).box1 (b := w.heap.size + 1 + 1) (by simp) [.slice aQ Q.length cQ, .slice aS wv.S.length cS, .slice aP wv.P.length cP, .slice aD wv.D.length cD] 28).box1 (b := w.heap.size + 1 + 1 + 1) (by simp) [.slice none 0 0, .slice none 0 0] 26)
 simp only [List.nil_append, List.cons_append] at F1
 clear h h2 k k2 hQ hS hP hD hiL hiK hL hK hc1 hc2 hc3 hc4 hz hall hgf hnu hco hnw hswf hcm hGd hWd hzz hOw hct hxl hwl hrr K e1 e2 e3 e4 e5 hf2 hnum hff hta tx tw hgx hgw hNe hMe hTe hCe hoe hNN hGF hWF haw hZ hSe hgS hpS
 refine (callsIn_wide (n := 20)).1 ?_
 refine callsIn_of_wp_marks Tryz.func10 rfl trivial ?_ rfl
 simp only [Tryz.ntmps10, List.size_toArray, List.length_cons, List.length_nil, Nat.reduceAdd, Nat.reduceSub, Array.replicate_succ, Array.replicate_zero, List.push_toArray, List.append_toArray, List.nil_append, List.cons_append]
 refine wpIn_wide.2 ?_
 go_upto_region 1 with fail
 obtain ⟨W1, hW1⟩ : ∃ W1, (((w.alloc (.cells #[.slice (some ⟨b0, o0, none⟩) xs.length c, .slice b ys.length d] 26)).alloc (.cells #[.slice (some ⟨b1, o1, none⟩) ws.length c2, .slice b2 vs.length dw] 26)).alloc (.cells #[.slice aQ Q.length cQ, .slice aS wv.S.length cS, .slice aP wv.P.length cP, .slice aD wv.D.length cD] 28)).alloc (.cells #[.slice none 0 0, .slice none 0 0] 26) = W1 := ⟨_, rfl⟩
 rw [hW1] at F1 ⊢
 clear hW1
 have c0_0 := F1.out.c 0 0 rfl rfl
 have c0_1 := F1.out.c 0 1 rfl rfl
 have c1_0 := F1.out.c 1 0 rfl rfl
 have c1_1 := F1.out.c 1 1 rfl rfl
 go_upto_region 3 with (first | (go_at_call 33; refine (HALL.out _ (F1.out.lw 0 rfl) (F1.out.lw 1 rfl) (F1.out.lw 2 rfl) (F1.out.lw 3 rfl)).mono ?_; rintro e w2 ⟨rfl, hb⟩; have F2 := Lib.hid (F1.out.next hb); clear hb F1 c0_0 c0_1 c1_0 c1_1; have c2_0 := F2.out.c 2 0 rfl rfl; have c2_1 := F2.out.c 2 1 rfl rfl; have c2_2 := F2.out.c 2 2 rfl rfl; have c2_3 := F2.out.c 2 3 rfl rfl) | (go_at_call 34; refine (HGF.out _).mono ?_; rintro e w' ⟨rfl, rfl⟩) | (go_at_call 35; refine (HNU.out _ (F2.out.lw 4 rfl) (F2.out.lw 5 rfl) (F2.out.lw 6 rfl) (F2.out.lw 7 rfl)).mono ?_; rintro e w3 ⟨rfl, hb⟩; have F3 := Lib.hid (F2.out.next hb); clear hb F2 c2_0 c2_1 c2_2 c2_3; have c0_0 := F3.out.c 0 0 rfl rfl; have c0_1 := F3.out.c 0 1 rfl rfl; have c1_0 := F3.out.c 1 0 rfl rfl; have c1_1 := F3.out.c 1 1 rfl rfl; have c2_0 := F3.out.c 2 0 rfl rfl; have c2_1 := F3.out.c 2 1 rfl rfl; have c2_2 := F3.out.c 2 2 rfl rfl; have c2_3 := F3.out.c 2 3 rfl rfl) | fail)
 go_upto_region 4 with (first | (go_at_call 36; refine (HCO.out _ (F3.out.lw 0 rfl) (F3.out.lw 2 rfl) (F3.out.lw 5 rfl) (F3.out.lw 6 rfl) (F3.out.lw 7 rfl)).mono ?_; rintro e w4 ⟨aL, cl, aK, ck, aO, cO, as1, cs1, rfl, ⟨b9, o9, he, rfl⟩, ⟨b8, o8, he2, rfl⟩, hf⟩; cases he; cases he2; have F4 := Lib.hid (F3.out.join hf); simp only [List.nil_append, List.cons_append] at F4; clear hf F3 c0_0 c0_1 c1_0 c1_1 c2_0 c2_1 c2_2 c2_3) | fail)
 obtain ⟨Y7, hY7⟩ : ∃ x, w4.heap.size = x := ⟨_, rfl⟩
 try rw [hY7]
 have F5 := Lib.hid (F4.out.box1 (b := Y7) hY7 [.slice (some ⟨b0, o0 + 2, none⟩) wv.L.length cl, .slice (some ⟨b1, o1 + 2, none⟩) wv.K.length ck, .slice aO wv.O.length cO, .slice aQ Q.length cQ, .slice aS wv.S.length cS, .slice aP wv.P.length cP, .slice aD wv.D.length cD] 77)
 simp only [List.nil_append, List.cons_append] at F5
 obtain ⟨W5, hW5⟩ : ∃ x, (w4.alloc (.cells #[.slice (some ⟨b0, o0 + 2, none⟩) wv.L.length cl, .slice (some ⟨b1, o1 + 2, none⟩) wv.K.length ck, .slice aO wv.O.length cO, .slice aQ Q.length cQ, .slice aS wv.S.length cS, .slice aP wv.P.length cP, .slice aD wv.D.length cD] 77)) = x := ⟨_, rfl⟩
 rw [hW5] at F5 ⊢
 clear hW5 hY7 F4
 go_upto_region 6 with fail
 go_upto_region 7 with (first | (go_at_call 37; refine (HNW.out as1 cs1 _ (F5.out.li 1 (k := .i64) (xs := S) rfl HSWF.out)).mono ?_; rintro e w6 hr; obtain ⟨as_, cs_, gd, dd, rfl, hf⟩ := retNew_frP hr bn1; have F6 := Lib.hid (F5.out.join hf); simp only [List.cons_append, List.nil_append] at F6; clear hf hr F5) | fail)
 obtain ⟨Q9, hQ9⟩ : ∃ x, w6.heap.size = x := ⟨_, rfl⟩
 try rw [hQ9]
 have F7 := Lib.hid (F6.out.box1 (b := Q9) hQ9 [.slice as_ S.length cs_, .slice (some ⟨gd, 0, none⟩) NN dd] 26)
 simp only [List.nil_append, List.cons_append] at F7
 obtain ⟨W7, hW7⟩ : ∃ x, (w6.alloc (.cells #[.slice as_ S.length cs_, .slice (some ⟨gd, 0, none⟩) NN dd] 26)) = x := ⟨_, rfl⟩
 rw [hW7] at F7 ⊢
 clear hW7 hQ9 F6
 have hk1 : 1 < xs.length := by have := HXL.out; have := HK.out.hr; omega
 have hk1i : (1 : Int) < (xs.length : Int) := by omega
 refine wp_region_parts2 (w := W7) 9 2 none [7, 8] [(fun u _ => u = .pointer (some ⟨w.heap.size, 0, none⟩)), (fun u _ => u = .slice (some ⟨b0, o0, none⟩) xs.length c), (fun u _ => u = .pointer (some ⟨b0, o0 + 1, none⟩)), (fun u _ => u = .int .i64 (C : Int)), (fun u _ => u = .pointer (some ⟨Y7, 0, none⟩)), (fun u _ => u = .slice (some ⟨b0, o0 + 2, none⟩) wv.L.length cl), (fun u _ => u = .int .i64 (M : Int)), ((IsObj W7.heap.size [.int .i64 0] 3)), ((IsObj W7.heap.size [.int .i64 0] 3))] [some 58, some 59, some 60, some 61, some 62, some 63, some 64, some 14, some 15, none, none] #[true, true, true, true, true, true, true, true, true, false, false] #[true, true, true, true, true, true, true, true, true, false, false] (by kernel_rfl) rfl (by kernel_rfl) (by kernel_rfl) rfl (by kernel_rfl) (by kernel_rfl) (.cons (carries_eq _) (.cons (carries_eq _) (.cons (carries_eq _) (.cons (carries_eq _) (.cons (carries_eq _) (.cons (carries_eq _) (.cons (carries_eq _) (.cons (isObj_carries _ _ _) (.cons (isObj_carries _ _ _) .nil))))))))) (fun vs b hvl hvb => ?_)
 obtain ⟨x0, x1, x2, x3, x4, x5, x6, x7, x8, x9, x10, rfl⟩ : ∃ x0 x1 x2 x3 x4 x5 x6 x7 x8 x9 x10, vs = [x0, x1, x2, x3, x4, x5, x6, x7, x8, x9, x10] := lw11 hvl
 clear hvl
 simp only [putAll, Act.put, List.setIfInBounds_toArray, List.set_cons_zero, List.set_cons_succ] at hvb
 subst hvb
 refine ⟨(.snoc (.snoc (.snoc (.snoc (.snoc (.snoc (.snoc (.snoc (.snoc .zero (PartOb.intro (d := (some 58)) (r := fun u _ => u = .pointer (some ⟨w.heap.size, 0, none⟩)) rfl rfl rfl rfl ?po7x0)) (PartOb.intro (d := (some 59)) (r := fun u _ => u = .slice (some ⟨b0, o0, none⟩) xs.length c) rfl rfl rfl rfl ?po7x1)) (PartOb.intro (d := (some 60)) (r := fun u _ => u = .pointer (some ⟨b0, o0 + 1, none⟩)) rfl rfl rfl rfl ?po7x2)) (PartOb.intro (d := (some 61)) (r := fun u _ => u = .int .i64 (C : Int)) rfl rfl rfl rfl ?po7x3)) (PartOb.intro (d := (some 62)) (r := fun u _ => u = .pointer (some ⟨Y7, 0, none⟩)) rfl rfl rfl rfl ?po7x4)) (PartOb.intro (d := (some 63)) (r := fun u _ => u = .slice (some ⟨b0, o0 + 2, none⟩) wv.L.length cl) rfl rfl rfl rfl ?po7x5)) (PartOb.intro (d := (some 64)) (r := fun u _ => u = .int .i64 (M : Int)) rfl rfl rfl rfl ?po7x6)) (PartOb.made (d := (some 14)) (r := (IsObj W7.heap.size [.int .i64 0] 3)) rfl rfl rfl ?po7x7)) (PartOb.made (d := (some 15)) (r := (IsObj W7.heap.size [.int .i64 0] 3)) rfl rfl rfl ?po7x8)), ?pend7, ?pfl7⟩
 case po7x0 | po7x4 =>
  intro w1 hb1 hd KK hK
  go_simp
  exact hK.out _ _ (Below.refl _ _) rfl
 case po7x1 =>
  intro w1 hb1 hd KK hK
  obtain rfl := hd 0 (by kernel_rfl)
  have hF := F7.out.next hb1
  have k0 := hF.c 0 0 rfl rfl
  go_simp
  exact hK.out _ _ (Below.refl _ _) rfl
 case po7x2 =>
  intro w1 hb1 hd KK hK
  obtain rfl := hd 1 (by kernel_rfl)
  go_simp
  exact hK.out _ _ (Below.refl _ _) rfl
 case po7x3 =>
  intro w1 hb1 hd KK hK
  obtain rfl := hd 2 (by kernel_rfl)
  have hF := F7.out.next hb1
  obtain ⟨b9, o9, he, _, hcx⟩ := (hF.l 0 rfl).cell 1 hk1
  cases he
  rw [HK.out.hC] at hcx
  go_simp
  exact hK.out _ _ (Below.refl _ _) rfl
 case po7x5 =>
  intro w1 hb1 hd KK hK
  obtain rfl := hd 4 (by kernel_rfl)
  have hF := F7.out.next hb1
  have k0 := hF.c 4 0 rfl rfl
  go_simp
  exact hK.out _ _ (Below.refl _ _) rfl
 case po7x6 =>
  intro w1 hb1 hd KK hK
  obtain rfl := hd 5 (by kernel_rfl)
  have hF := F7.out.next hb1
  go_simp
  go_at_call 38
  refine (HCM.out _ _ w1 (hF.lw 8 rfl)).mono ?_
  rintro e w2 ⟨rfl, rfl⟩
  (try go_wp2_with fail)
  exact hK.out _ _ (Below.refl _ _) rfl
 case po7x7 | po7x8 =>
  intro w1 hb1 hd KK hK
  go_simp
  exact hK.out _ ((Below.refl _ _).alloc (Nat.le_refl _) _) (by simp) (isObj_new _ _ _ w1 hb1.size)
 case pfl7 => (intro f hf; cases hf)
 case pend7 =>
 intro w1 hb1 hR hD
 have hD7x8 : x7 ≠ x8 := hD 7 8 (by decide) (by decide) rfl rfl (by decide)
 obtain rfl := hR 0 (by decide)
 obtain rfl := hR 1 (by decide)
 obtain rfl := hR 2 (by decide)
 obtain rfl := hR 3 (by decide)
 obtain rfl := hR 4 (by decide)
 obtain rfl := hR 5 (by decide)
 obtain rfl := hR 6 (by decide)
 obtain ⟨b7, rfl, hl7, ho7⟩ := hR 7 (by decide)
 obtain ⟨b8, rfl, hl8, ho8⟩ := hR 8 (by decide)
 clear hR hD
 replace hD7x8 : b7 ≠ b8 := fun e => hD7x8 (by rw [e])
 refine wpAny_ready (rs := [9]) (by kernel_rfl) (by simp) (AllReady.cons rfl (fun KK hK => ?_) AllReady.nil)
 have F8 := F7.out.join2 (Fr.twoC hb1 hl7 ho7 hl8 ho8 hD7x8)
 simp only [List.cons_append, List.nil_append, List.append_nil] at F8
 have t6_0 := F8.c 6 0 rfl rfl
 have tf6_0 := F8.f 6 0 rfl rfl
 go_simp
 refine hK _ _ ?_
 clear hK KK
 refine wpAny_ready (rs := [10]) (by kernel_rfl) (by simp) (AllReady.cons rfl (fun KK hK => ?_) AllReady.nil)
 have F9 := F8.set 6 rfl (by simp) [.int .i64 (C : Int)] rfl
 simp only [setL, List.set_cons_zero, List.set_cons_succ] at F9
 have u7_0 := F9.c 7 0 rfl rfl
 have uf7_0 := F9.f 7 0 rfl rfl
 go_simp
 refine hK _ _ ?_
 clear hK KK
 refine wpAny_done (by kernel_rfl) ?_ _
 have F10 := Lib.hid (F9.set 7 rfl (by simp) [.int .i64 (M : Int)] rfl)
 simp only [setL, List.set_cons_zero, List.set_cons_succ] at F10
 obtain ⟨W10, hW10⟩ : ∃ x, (w1.setCell ⟨b7, 0, none⟩ (.int .i64 (C : Int))).setCell ⟨b8, 0, none⟩ (.int .i64 (M : Int)) = x := ⟨_, rfl⟩
 rw [hW10] at F10 ⊢
 clear hW10 F9 F8 F7 hb1 hl7 ho7 hl8 ho8 hD7x8 t6_0 tf6_0 u7_0 uf7_0 hk1 hk1i
 have hz0 := range_zeroP NN
 rw [← hz0] at F10
 have F11b := F10.out
 have e1 : (List.range NN).map (fun _ => (0 : Int)) = (List.range NN).map (upto WF 0) := by rw [upto_zero]
 have F11 : Hid (Fr w.heap.size w W10 [(w.heap.size, [.slice (some ⟨b0, o0, none⟩) xs.length c, .slice b ys.length d]), (w.heap.size + 1, [.slice (some ⟨b1, o1, none⟩) ws.length c2, .slice b2 vs.length dw]), (w.heap.size + 1 + 1, [.slice aQ Q.length cQ, .slice aS wv.S.length cS, .slice aP wv.P.length cP, .slice aD wv.D.length cD]), (w.heap.size + 1 + 1 + 1, [.slice none 0 0, .slice none 0 0]), (Y7, [.slice (some ⟨b0, o0 + 2, none⟩) wv.L.length cl, .slice (some ⟨b1, o1 + 2, none⟩) wv.K.length ck, .slice aO wv.O.length cO, .slice aQ Q.length cQ, .slice aS wv.S.length cS, .slice aP wv.P.length cP, .slice aD wv.D.length cD]), (Q9, [.slice as_ S.length cs_, .slice (some ⟨gd, 0, none⟩) NN dd]), (b7, [.int .i64 (C : Int)]), (b8, [.int .i64 (M : Int)])] [(.i64, (some ⟨b0, o0, none⟩), xs), (.i64, b, ys), (.i64, (some ⟨b1, o1, none⟩), ws), (.i64, b2, vs), (.i64, aQ, Q), (.i64, aS, wv.S), (.i64, aP, wv.P), (.i64, aD, wv.D), (.i64, (some ⟨b0, o0 + 2, none⟩), wv.L), (.i64, (some ⟨b1, o1 + 2, none⟩), wv.K)] [⟨3, .slice aO wv.O.length cO, wv.O.length, wv.O.map (Value.int .i64)⟩, ⟨3, .slice as1 S.length cs1, S.length, S.map (Value.int .i64)⟩, ⟨3, .slice as_ S.length cs_, S.length, S.map (Value.int .i64)⟩, ⟨2, .slice (some ⟨gd, 0, none⟩) NN dd, NN, ((List.range NN).map (upto WF 0)).map (Value.int .i64)⟩] []) := Lib.hid (by first | exact (e1 ▸ F11b) | (rw [← e1]; exact F11b))
 clear F10 F11b hz0 e1
 have c5_0 := F11.out.c 5 0 rfl rfl
 have c5_1 := F11.out.c 5 1 rfl rfl
 go_wp2
 refine wp_loopF (fun s w' ds => ∃ (n : Nat) (Ds : List Nat), n ≤ NN ∧ s 68 = .int .i64 (n : Int) ∧ ds = mkD Ds ∧ Hid (∀ j, j < n → isW (WF j) = true) ∧ Hid (Fr w.heap.size w w' [(w.heap.size, [.slice (some ⟨b0, o0, none⟩) xs.length c, .slice b ys.length d]), (w.heap.size + 1, [.slice (some ⟨b1, o1, none⟩) ws.length c2, .slice b2 vs.length dw]), (w.heap.size + 1 + 1, [.slice aQ Q.length cQ, .slice aS wv.S.length cS, .slice aP wv.P.length cP, .slice aD wv.D.length cD]), (w.heap.size + 1 + 1 + 1, [.slice none 0 0, .slice none 0 0]), (Y7, [.slice (some ⟨b0, o0 + 2, none⟩) wv.L.length cl, .slice (some ⟨b1, o1 + 2, none⟩) wv.K.length ck, .slice aO wv.O.length cO, .slice aQ Q.length cQ, .slice aS wv.S.length cS, .slice aP wv.P.length cP, .slice aD wv.D.length cD]), (Q9, [.slice as_ S.length cs_, .slice (some ⟨gd, 0, none⟩) NN dd]), (b7, [.int .i64 (C : Int)]), (b8, [.int .i64 (M : Int)])] [(.i64, (some ⟨b0, o0, none⟩), xs), (.i64, b, ys), (.i64, (some ⟨b1, o1, none⟩), ws), (.i64, b2, vs), (.i64, aQ, Q), (.i64, aS, wv.S), (.i64, aP, wv.P), (.i64, aD, wv.D), (.i64, (some ⟨b0, o0 + 2, none⟩), wv.L), (.i64, (some ⟨b1, o1 + 2, none⟩), wv.K)] [⟨3, .slice aO wv.O.length cO, wv.O.length, wv.O.map (Value.int .i64)⟩, ⟨3, .slice as1 S.length cs1, S.length, S.map (Value.int .i64)⟩, ⟨3, .slice as_ S.length cs_, S.length, S.map (Value.int .i64)⟩, ⟨2, .slice (some ⟨gd, 0, none⟩) NN dd, NN, ((List.range NN).map (upto WF n)).map (Value.int .i64)⟩] (mkM Ds))) (fun s => #[s 0, s 1, s 2, .int .i64 (fn : Int), .pointer (some ⟨w.heap.size, 0, none⟩), .pointer (some ⟨w.heap.size + 1, 0, none⟩), .pointer (some ⟨w.heap.size + 1 + 1, 0, none⟩), s 7, .pointer (some ⟨w.heap.size + 1 + 1 + 1, 0, none⟩), s 9, .pointer (some ⟨Y7, 0, none⟩), s 11, s 12, .pointer (some ⟨Q9, 0, none⟩), .pointer (some ⟨b7, 0, none⟩), .pointer (some ⟨b8, 0, none⟩), s 16, s 17, s 18, s 19, s 20, s 21, s 22, s 23, s 24, s 25, s 26, s 27, s 28, s 29, s 30, s 31, s 32, s 33, s 34, s 35, s 36, s 37, s 38, s 39, s 40, s 41, s 42, s 43, s 44, s 45, s 46, s 47, s 48, s 49, s 50, s 51, s 52, s 53, s 54, s 55, s 56, s 57, s 58, s 59, s 60, s 61, s 62, s 63, s 64, s 65, s 66, .int .i64 (NN : Int), s 68, s 69, s 70, s 71, s 72, s 73, s 74, s 75, s 76, s 77, s 78, s 79, s 80, s 81, s 82, s 83, s 84, s 85, s 86, s 87, s 88, s 89, s 90, s 91, s 92, s 93, s 94, s 95, s 96, s 97, s 98, s 99, s 100, s 101, s 102, s 103, s 104, s 105, s 106, s 107, s 108, s 109, s 110, s 111, s 112, s 113, s 114, s 115, s 116, s 117, s 118, s 119, s 120, s 121, s 122, s 123, s 124, s 125, s 126, s 127, s 128, s 129, s 130, s 131, s 132, s 133, s 134, s 135, s 136, s 137, s 138, s 139, s 140, s 141, s 142, s 143, s 144, s 145, s 146, s 147, s 148, s 149, s 150, s 151]) (fun s => NN - (intOf (s 68)).toNat) ⟨0, [], Nat.zero_le _, rfl, rfl, Lib.hid (fun j hj => absurd hj (Nat.not_lt_zero j)), F11⟩ rfl ?_
 rintro s wr ds ⟨n, Ds, hn, h32, rfl, HALLW, F12⟩
 clear F11 c5_0 c5_1
 obtain ⟨wo, rfl⟩ : ∃ x : World, x = wr := ⟨_, rfl⟩
 dsimp only
 rw [h32]
 have hN32 := Lib.hid h32
 clear h32
 by_cases hlt : n < NN
 ·skip
  have hni : (n : Int) < (NN : Int) := by omega
  obtain ⟨LD, hLD⟩ : ∃ l, ((List.range NN).map (upto WF n)).map (Value.int .i64) = l := ⟨_, rfl⟩
  rw [hLD] at F12
  have HLD := Lib.hid hLD
  clear hLD
  have hat := HK.out.at hlt
  have hN1 := HK.out.n1
  have ho1 := HK.out.o1
  have hrem : ((n : Int)).tmod (N : Int) = ((n % N : Nat) : Int) := by rw [Int.tmod_eq_emod_of_nonneg (Int.natCast_nonneg _)]; exact (Int.natCast_emod _ _).symm
  have hquo : ((n : Int)).tdiv (N : Int) = ((n / N : Nat) : Int) := by rw [Int.tdiv_eq_ediv_of_nonneg (Int.natCast_nonneg _)]; exact (Int.natCast_ediv _ _).symm
  have hrem2 : (((n / N : Nat) : Int)).tmod (o : Int) = ((n / N % o : Nat) : Int) := by rw [Int.tmod_eq_emod_of_nonneg (Int.natCast_nonneg _)]; exact (Int.natCast_emod _ _).symm
  have hquo2 : (((n / N : Nat) : Int)).tdiv (o : Int) = ((n / N / o : Nat) : Int) := by rw [Int.tdiv_eq_ediv_of_nonneg (Int.natCast_nonneg _)]; exact (Int.natCast_ediv _ _).symm
  have hgd := HGD.out n
  have hqb : n / N ≤ n := Nat.div_le_self _ _
  obtain ⟨pl, hpl⟩ : ∃ z, n % N = z := ⟨_, rfl⟩
  obtain ⟨rw9, hrw⟩ : ∃ z, n / N = z := ⟨_, rfl⟩
  rw [hpl] at hat hrem hgd
  rw [hrw] at hat hquo hrem2 hquo2 hgd hqb
  obtain ⟨one, hone⟩ : ∃ z, rw9 / o = z := ⟨_, rfl⟩
  obtain ⟨out, hout⟩ : ∃ z, rw9 % o = z := ⟨_, rfl⟩
  rw [hone] at hat hquo2 hgd
  rw [hout] at hat hrem2 hgd
  have HAT := Lib.hid hat
  have HGN := Lib.hid hgd
  have HREM := Lib.hid hrem
  have HQUO := Lib.hid hquo
  have HREM2 := Lib.hid hrem2
  have HQUO2 := Lib.hid hquo2
  have HN0 := Lib.hid (show ¬ N = 0 by omega)
  have HO0 := Lib.hid (show ¬ o = 0 by omega)
  have HQW := Lib.hid (show IntKind.i64.wrap (rw9 : Int) = (rw9 : Int) from IntWalk.i64_in _ (by omega))
  have HQW2 := Lib.hid (show IntKind.i64.wrap (one : Int) = (one : Int) from IntWalk.i64_in _ (by omega))
  clear hat hgd hrem hquo hrem2 hquo2 hpl hrw hone hout hN1 ho1 hqb
  have hpl9 := fun W (h : Ints .i64 W W.heap.size aO wv.O) => winPlaces_any (some ⟨b0, o0 + 2, none⟩) (some ⟨b1, o1 + 2, none⟩) aO aQ aS aP aD cl ck cO cQ cS cP cD Q wv W h HK.out.gO
  rw [HK.out.hN] at hpl9
  have HPL := Lib.hid hpl9
  clear hpl9
  go_upto_region 11 with fail
  refine wp_calm ?_
  have FD := F12.out.drew
  refine wp_region_J (S := fun _ => True) (S1 := fun W9 => W9.cell? ⟨Y7, 0, none⟩ = some (.slice (some ⟨b0, o0 + 2, none⟩) wv.L.length cl) ∧ W9.cell? ⟨Y7, 1, none⟩ = some (.slice (some ⟨b1, o1 + 2, none⟩) wv.K.length ck) ∧ W9.cell? ⟨Y7, 2, none⟩ = some (.slice aO wv.O.length cO) ∧ W9.cell? ⟨Y7, 3, none⟩ = some (.slice aQ Q.length cQ) ∧ W9.cell? ⟨Y7, 4, none⟩ = some (.slice aS wv.S.length cS) ∧ W9.cell? ⟨Y7, 5, none⟩ = some (.slice aP wv.P.length cP) ∧ W9.cell? ⟨Y7, 6, none⟩ = some (.slice aD wv.D.length cD)) (L := [0, 1, 3, 4, 5, 7]) (by kernel_rfl) trivial ⟨FD.c 4 0 rfl rfl, FD.c 4 1 rfl rfl, FD.c 4 2 rfl rfl, FD.c 4 3 rfl rfl, FD.c 4 4 rfl rfl, FD.c 4 5 rfl rfl, FD.c 4 6 rfl rfl⟩ (fun hHeld hHeld1 => ?_)
  obtain ⟨w0, hw0⟩ : ∃ x, wo.drew = x := ⟨_, rfl⟩
  rw [hw0] at FD hHeld1 ⊢
  clear hw0
  refine takeJ1 (i := 0) (dst := (some 71)) (v := .int .i64 (n : Int)) rfl rfl (by kernel_rfl) (by kernel_rfl) (by kernel_rfl) (by kernel_rfl) (fun _ _ _ h => h) (by rfl) ?hyj11n1 hHeld1 ?restj11n1
  case hyj11n1 =>
   intro W hSw
   go_simp
   (try with_reducible rfl)
  try simp only [Act.put, List.setIfInBounds_toArray, List.set_cons_zero, List.set_cons_succ]
  refine takeJ1 (i := 4) (dst := (some 75)) (v := .int .i64 (n : Int)) rfl rfl (by kernel_rfl) (by kernel_rfl) (by kernel_rfl) (by kernel_rfl) (fun _ _ _ h => h) (by rfl) ?hyj11n2 hHeld1 ?restj11n2
  case hyj11n2 =>
   intro W hSw
   go_simp
   (try with_reducible rfl)
  try simp only [Act.put, List.setIfInBounds_toArray, List.set_cons_zero, List.set_cons_succ]
  refine takeJ1 (i := 1) (dst := (some 72)) (v := .agg #[.slice (some ⟨b0, o0 + 2, none⟩) wv.L.length cl, .slice (some ⟨b1, o1 + 2, none⟩) wv.K.length ck, .slice aO wv.O.length cO, .slice aQ Q.length cQ, .slice aS wv.S.length cS, .slice aP wv.P.length cP, .slice aD wv.D.length cD]) rfl rfl (by kernel_rfl) (by kernel_rfl) (by kernel_rfl) (by kernel_rfl) (fun _ _ _ h => h) (by rfl) ?hyj11n3 hHeld1 ?restj11n3
  case hyj11n3 =>
   intro W hSw
   obtain ⟨s0, s1, s2, s3, s4, s5, s6⟩ := hSw
   go_simp
   (try with_reducible rfl)
  try simp only [Act.put, List.setIfInBounds_toArray, List.set_cons_zero, List.set_cons_succ]
  refine takeJ1 (i := 5) (dst := (some 76)) (v := .agg #[.slice (some ⟨b0, o0 + 2, none⟩) wv.L.length cl, .slice (some ⟨b1, o1 + 2, none⟩) wv.K.length ck, .slice aO wv.O.length cO, .slice aQ Q.length cQ, .slice aS wv.S.length cS, .slice aP wv.P.length cP, .slice aD wv.D.length cD]) rfl rfl (by kernel_rfl) (by kernel_rfl) (by kernel_rfl) (by kernel_rfl) (fun _ _ _ h => h) (by rfl) ?hyj11n4 hHeld1 ?restj11n4
  case hyj11n4 =>
   intro W hSw
   obtain ⟨s0, s1, s2, s3, s4, s5, s6⟩ := hSw
   go_simp
   (try with_reducible rfl)
  try simp only [Act.put, List.setIfInBounds_toArray, List.set_cons_zero, List.set_cons_succ]
  refine readyJ (rs := [2]) (by kernel_rfl) (by simp) (AllJ.cons rfl ?j11o5 AllJ.nil)
  case j11o5 =>
   intro K hK
   go_simp
   go_at_call 39
   refine (HPL.out w0 (FD.li 0 (k := .i64) (xs := wv.O) rfl HOWF.out)).mono ?_
   rintro e w2 ⟨rfl, hb⟩
   have FE := FD.next hb
   clear hb FD
   refine hK.out _ _ (fun _ => trivial) ⟨FE.c 4 0 rfl rfl, FE.c 4 1 rfl rfl, FE.c 4 2 rfl rfl, FE.c 4 3 rfl rfl, FE.c 4 4 rfl rfl, FE.c 4 5 rfl rfl, FE.c 4 6 rfl rfl⟩ (fun hHeld hHeld1 => ?_)
   clear hK K
   try simp only [Act.put, List.setIfInBounds_toArray, List.set_cons_zero, List.set_cons_succ]
   refine takeJ1 (i := 3) (dst := (some 74)) (v := .int .i64 (pl : Int)) rfl rfl (by kernel_rfl) (by kernel_rfl) (by kernel_rfl) (by kernel_rfl) (fun _ _ _ h => h) (by rfl) ?hyj11n6 hHeld1 ?restj11n6
   case hyj11n6 =>
    intro W hSw
    have dx := HREM.out
    have dn := HN0.out
    go_simp
    (try with_reducible rfl)
   try simp only [Act.put, List.setIfInBounds_toArray, List.set_cons_zero, List.set_cons_succ]
   refine readyJ (rs := [6]) (by kernel_rfl) (by simp) (AllJ.cons rfl ?j11o7 AllJ.nil)
   case j11o7 =>
    intro K hK
    go_simp
    go_at_call 39
    refine (HPL.out w2 (FE.li 0 (k := .i64) (xs := wv.O) rfl HOWF.out)).mono ?_
    rintro e w3 ⟨rfl, hb⟩
    have FG := FE.next hb
    clear hb FE
    refine hK.out _ _ (fun _ => trivial) ⟨FG.c 4 0 rfl rfl, FG.c 4 1 rfl rfl, FG.c 4 2 rfl rfl, FG.c 4 3 rfl rfl, FG.c 4 4 rfl rfl, FG.c 4 5 rfl rfl, FG.c 4 6 rfl rfl⟩ (fun hHeld hHeld1 => ?_)
    clear hK K
    try simp only [Act.put, List.setIfInBounds_toArray, List.set_cons_zero, List.set_cons_succ]
    refine takeJ1 (i := 7) (dst := (some 78)) (v := .int .i64 (rw9 : Int)) rfl rfl (by kernel_rfl) (by kernel_rfl) (by kernel_rfl) (by kernel_rfl) (fun _ _ _ h => h) (by rfl) ?hyj11n8 hHeld1 ?restj11n8
    case hyj11n8 =>
     intro W hSw
     have dx := HQUO.out
     have dn := HN0.out
     have dw := HQW.out
     go_simp
     (try with_reducible rfl)
    try simp only [Act.put, List.setIfInBounds_toArray, List.set_cons_zero, List.set_cons_succ]
    refine readyJ (rs := [8]) (by kernel_rfl) (by simp) (AllJ.cons rfl ?j11o9 AllJ.nil)
    case j11o9 =>
     intro K hK
     go_simp
     refine hK.out _ _ (fun _ => trivial) ⟨FG.c 4 0 rfl rfl, FG.c 4 1 rfl rfl, FG.c 4 2 rfl rfl, FG.c 4 3 rfl rfl, FG.c 4 4 rfl rfl, FG.c 4 5 rfl rfl, FG.c 4 6 rfl rfl⟩ (fun hHeld hHeld1 => ?_)
     clear hK K
     try simp only [Act.put, List.setIfInBounds_toArray, List.set_cons_zero, List.set_cons_succ]
     refine readyJ (rs := [9]) (by kernel_rfl) (by simp) (AllJ.cons rfl ?j11o10 AllJ.nil)
     case j11o10 =>
      intro K hK
      go_simp
      refine hK.out _ _ (fun _ => trivial) ⟨FG.c 4 0 rfl rfl, FG.c 4 1 rfl rfl, FG.c 4 2 rfl rfl, FG.c 4 3 rfl rfl, FG.c 4 4 rfl rfl, FG.c 4 5 rfl rfl, FG.c 4 6 rfl rfl⟩ (fun hHeld hHeld1 => ?_)
      clear hK K
      try simp only [Act.put, List.setIfInBounds_toArray, List.set_cons_zero, List.set_cons_succ]
      refine doneJ (by kernel_rfl) ?_
      dsimp only
      have F13 := Lib.hid FG
      clear FG hHeld hHeld1 F12
      obtain ⟨V1, rfl⟩ : ∃ x : World, x = w3 := ⟨_, rfl⟩
      (try simp only [Exit.noGoto_normal, Exit.inBlock, Exit.then])
      (first | refine ‹∀ (a : Act) (w : World), Code.wp _ _ _ a w → _ a w› _ _ ?_ | skip)
      go_upto_region 12 with fail
      go_cut [19, 20] from 79 to 90 (fun s19 s20 wx => ∃ p q, s19 = .pointer (some ⟨p, 0, none⟩) ∧ s20 = .pointer (some ⟨q, 0, none⟩) ∧ Hid (Fr w.heap.size w wx [(w.heap.size, [.slice (some ⟨b0, o0, none⟩) xs.length c, .slice b ys.length d]), (w.heap.size + 1, [.slice (some ⟨b1, o1, none⟩) ws.length c2, .slice b2 vs.length dw]), (w.heap.size + 1 + 1, [.slice aQ Q.length cQ, .slice aS wv.S.length cS, .slice aP wv.P.length cP, .slice aD wv.D.length cD]), (w.heap.size + 1 + 1 + 1, [.slice none 0 0, .slice none 0 0]), (Y7, [.slice (some ⟨b0, o0 + 2, none⟩) wv.L.length cl, .slice (some ⟨b1, o1 + 2, none⟩) wv.K.length ck, .slice aO wv.O.length cO, .slice aQ Q.length cQ, .slice aS wv.S.length cS, .slice aP wv.P.length cP, .slice aD wv.D.length cD]), (Q9, [.slice as_ S.length cs_, .slice (some ⟨gd, 0, none⟩) NN dd]), (b7, [.int .i64 (C : Int)]), (b8, [.int .i64 (M : Int)]), (p, [.int .i64 (one : Int)]), (q, [.int .i64 (out : Int)])] [(.i64, (some ⟨b0, o0, none⟩), xs), (.i64, b, ys), (.i64, (some ⟨b1, o1, none⟩), ws), (.i64, b2, vs), (.i64, aQ, Q), (.i64, aS, wv.S), (.i64, aP, wv.P), (.i64, aD, wv.D), (.i64, (some ⟨b0, o0 + 2, none⟩), wv.L), (.i64, (some ⟨b1, o1 + 2, none⟩), wv.K)] [⟨3, .slice aO wv.O.length cO, wv.O.length, wv.O.map (Value.int .i64)⟩, ⟨3, .slice as1 S.length cs1, S.length, S.map (Value.int .i64)⟩, ⟨3, .slice as_ S.length cs_, S.length, S.map (Value.int .i64)⟩, ⟨2, .slice (some ⟨gd, 0, none⟩) NN dd, NN, LD⟩] (mkM Ds)))
      case first => as_aux_lemma =>
       refine wp_calm ?_
       have g0n : 0 < ws.length := by have h1 := HK.out.lw; have h2 := HXL.out; omega
       have g0w : (0 : Int) < (ws.length : Int) := by omega
       have g0e : ¬ ws = [] := fun h => by rw [h] at g0n; exact absurd g0n (by simp)
       have FD := F13.out.drew
       refine wp_region_J (S := fun _ => True) (S1 := fun W9 => W9.cell? ⟨w.heap.size + 1, 0, none⟩ = some (.slice (some ⟨b1, o1, none⟩) ws.length c2) ∧ W9.cell? ⟨b1, o1, none⟩ = some (.int .i64 (o : Int))) (L := [0, 1, 2, 3, 4, 5, 6, 7, 8, 9, 10, 11]) (by kernel_rfl) trivial ⟨FD.c 1 0 rfl rfl, (FD.bel.cell (p := ⟨b1, o1, none⟩) HB1L.out).trans HDW.out⟩ (fun hHeld hHeld1 => ?_)
       obtain ⟨w0, hw0⟩ : ∃ x, V1.drew = x := ⟨_, rfl⟩
       rw [hw0] at FD hHeld1 ⊢
       clear hw0
       refine takeJ1 (i := 0) (dst := (some 79)) (v := .int .i64 (rw9 : Int)) rfl rfl (by kernel_rfl) (by kernel_rfl) (by kernel_rfl) (by kernel_rfl) (fun _ _ _ h => h) (by rfl) ?hyj12n1 hHeld1 ?restj12n1
       case hyj12n1 =>
        intro W hSw
        go_simp
        (try with_reducible rfl)
       try simp only [Act.put, List.setIfInBounds_toArray, List.set_cons_zero, List.set_cons_succ]
       refine takeJ1 (i := 1) (dst := (some 80)) (v := .pointer (some ⟨w.heap.size + 1, 0, none⟩)) rfl rfl (by kernel_rfl) (by kernel_rfl) (by kernel_rfl) (by kernel_rfl) (fun _ _ _ h => h) (by rfl) ?hyj12n2 hHeld1 ?restj12n2
       case hyj12n2 =>
        intro W hSw
        go_simp
        (try with_reducible rfl)
       try simp only [Act.put, List.setIfInBounds_toArray, List.set_cons_zero, List.set_cons_succ]
       refine takeJ1 (i := 2) (dst := (some 81)) (v := .slice (some ⟨b1, o1, none⟩) ws.length c2) rfl rfl (by kernel_rfl) (by kernel_rfl) (by kernel_rfl) (by kernel_rfl) (fun _ _ _ h => h) (by rfl) ?hyj12n3 hHeld1 ?restj12n3
       case hyj12n3 =>
        intro W hSw
        obtain ⟨s0, s1⟩ := hSw
        go_simp
        (try with_reducible rfl)
       try simp only [Act.put, List.setIfInBounds_toArray, List.set_cons_zero, List.set_cons_succ]
       refine takeJ1 (i := 3) (dst := (some 82)) (v := .pointer (some ⟨b1, o1, none⟩)) rfl rfl (by kernel_rfl) (by kernel_rfl) (by kernel_rfl) (by kernel_rfl) (fun _ _ _ h => h) (by rfl) ?hyj12n4 hHeld1 ?restj12n4
       case hyj12n4 =>
        intro W hSw
        go_simp
        (try with_reducible rfl)
       try simp only [Act.put, List.setIfInBounds_toArray, List.set_cons_zero, List.set_cons_succ]
       refine takeJ1 (i := 4) (dst := (some 83)) (v := .int .i64 (o : Int)) rfl rfl (by kernel_rfl) (by kernel_rfl) (by kernel_rfl) (by kernel_rfl) (fun _ _ _ h => h) (by rfl) ?hyj12n5 hHeld1 ?restj12n5
       case hyj12n5 =>
        intro W hSw
        obtain ⟨s0, s1⟩ := hSw
        go_simp
        (try with_reducible rfl)
       try simp only [Act.put, List.setIfInBounds_toArray, List.set_cons_zero, List.set_cons_succ]
       refine takeJ1 (i := 5) (dst := (some 84)) (v := .int .i64 (one : Int)) rfl rfl (by kernel_rfl) (by kernel_rfl) (by kernel_rfl) (by kernel_rfl) (fun _ _ _ h => h) (by rfl) ?hyj12n6 hHeld1 ?restj12n6
       case hyj12n6 =>
        intro W hSw
        have dn := HO0.out
        have dx := HQUO2.out
        have dw := HQW2.out
        go_simp
        (try with_reducible rfl)
       try simp only [Act.put, List.setIfInBounds_toArray, List.set_cons_zero, List.set_cons_succ]
       refine takeJ1 (i := 6) (dst := (some 85)) (v := .int .i64 (rw9 : Int)) rfl rfl (by kernel_rfl) (by kernel_rfl) (by kernel_rfl) (by kernel_rfl) (fun _ _ _ h => h) (by rfl) ?hyj12n7 hHeld1 ?restj12n7
       case hyj12n7 =>
        intro W hSw
        go_simp
        (try with_reducible rfl)
       try simp only [Act.put, List.setIfInBounds_toArray, List.set_cons_zero, List.set_cons_succ]
       refine takeJ1 (i := 7) (dst := (some 86)) (v := .pointer (some ⟨w.heap.size + 1, 0, none⟩)) rfl rfl (by kernel_rfl) (by kernel_rfl) (by kernel_rfl) (by kernel_rfl) (fun _ _ _ h => h) (by rfl) ?hyj12n8 hHeld1 ?restj12n8
       case hyj12n8 =>
        intro W hSw
        go_simp
        (try with_reducible rfl)
       try simp only [Act.put, List.setIfInBounds_toArray, List.set_cons_zero, List.set_cons_succ]
       refine takeJ1 (i := 8) (dst := (some 87)) (v := .slice (some ⟨b1, o1, none⟩) ws.length c2) rfl rfl (by kernel_rfl) (by kernel_rfl) (by kernel_rfl) (by kernel_rfl) (fun _ _ _ h => h) (by rfl) ?hyj12n9 hHeld1 ?restj12n9
       case hyj12n9 =>
        intro W hSw
        obtain ⟨s0, s1⟩ := hSw
        go_simp
        (try with_reducible rfl)
       try simp only [Act.put, List.setIfInBounds_toArray, List.set_cons_zero, List.set_cons_succ]
       refine takeJ1 (i := 9) (dst := (some 88)) (v := .pointer (some ⟨b1, o1, none⟩)) rfl rfl (by kernel_rfl) (by kernel_rfl) (by kernel_rfl) (by kernel_rfl) (fun _ _ _ h => h) (by rfl) ?hyj12n10 hHeld1 ?restj12n10
       case hyj12n10 =>
        intro W hSw
        go_simp
        (try with_reducible rfl)
       try simp only [Act.put, List.setIfInBounds_toArray, List.set_cons_zero, List.set_cons_succ]
       refine takeJ1 (i := 10) (dst := (some 89)) (v := .int .i64 (o : Int)) rfl rfl (by kernel_rfl) (by kernel_rfl) (by kernel_rfl) (by kernel_rfl) (fun _ _ _ h => h) (by rfl) ?hyj12n11 hHeld1 ?restj12n11
       case hyj12n11 =>
        intro W hSw
        obtain ⟨s0, s1⟩ := hSw
        go_simp
        (try with_reducible rfl)
       try simp only [Act.put, List.setIfInBounds_toArray, List.set_cons_zero, List.set_cons_succ]
       refine takeJ1 (i := 11) (dst := (some 90)) (v := .int .i64 (out : Int)) rfl rfl (by kernel_rfl) (by kernel_rfl) (by kernel_rfl) (by kernel_rfl) (fun _ _ _ h => h) (by rfl) ?hyj12n12 hHeld1 ?restj12n12
       case hyj12n12 =>
        intro W hSw
        have dn := HO0.out
        have dx := HREM2.out
        go_simp
        (try with_reducible rfl)
       try simp only [Act.put, List.setIfInBounds_toArray, List.set_cons_zero, List.set_cons_succ]
       refine readyJ (rs := [12, 13]) (by kernel_rfl) (by simp) (AllJ.cons rfl ?a12 (AllJ.cons rfl ?a13 AllJ.nil))
       case a12 =>
        intro K hK
        go_simp
        obtain ⟨p9, hp9⟩ : ∃ x, w0.heap.size = x := ⟨_, rfl⟩
        rw [hp9]
        have FE := FD.box1 hp9 [.int .i64 0] 3
        simp only [List.cons_append, List.nil_append] at FE
        obtain ⟨w1, hw1⟩ : ∃ zz, (w0.alloc (.cells #[.int .i64 0] 3)) = zz := ⟨_, rfl⟩
        rw [hw1] at FE ⊢
        clear hw1 hp9 FD
        refine hK.out _ _ (fun _ => trivial) ⟨FE.c 1 0 rfl rfl, (FE.bel.cell (p := ⟨b1, o1, none⟩) HB1L.out).trans HDW.out⟩ (fun hHeld hHeld1 => ?_)
        clear hK K
        try simp only [Act.put, List.setIfInBounds_toArray, List.set_cons_zero, List.set_cons_succ]
        refine readyJ (rs := [13]) (by kernel_rfl) (by simp) (AllJ.cons rfl ?j12o13 AllJ.nil)
        case j12o13 =>
         intro K hK
         go_simp
         obtain ⟨q9, hq9⟩ : ∃ x, w1.heap.size = x := ⟨_, rfl⟩
         rw [hq9]
         have FG := FE.box1 hq9 [.int .i64 0] 3
         simp only [List.cons_append, List.nil_append] at FG
         obtain ⟨w2, hw2⟩ : ∃ zz, (w1.alloc (.cells #[.int .i64 0] 3)) = zz := ⟨_, rfl⟩
         rw [hw2] at FG ⊢
         clear hw2 hq9 FE
         refine hK.out _ _ (fun _ => trivial) ⟨FG.c 1 0 rfl rfl, (FG.bel.cell (p := ⟨b1, o1, none⟩) HB1L.out).trans HDW.out⟩ (fun hHeld hHeld1 => ?_)
         clear hK K
         try simp only [Act.put, List.setIfInBounds_toArray, List.set_cons_zero, List.set_cons_succ]
         refine readyJ (rs := [14]) (by kernel_rfl) (by simp) (AllJ.cons rfl ?j12o14 AllJ.nil)
         case j12o14 =>
          intro K hK
          have k0 := FG.c 8 0 rfl rfl
          have kf := FG.f 8 0 rfl rfl
          go_simp
          have FH := FG.set 8 rfl (by simp) [.int .i64 (one : Int)] rfl
          simp only [setL, List.set_cons_zero, List.set_cons_succ] at FH
          clear k0 kf
          refine hK.out _ _ (fun _ => trivial) ⟨FH.c 1 0 rfl rfl, (FH.bel.cell (p := ⟨b1, o1, none⟩) HB1L.out).trans HDW.out⟩ (fun hHeld hHeld1 => ?_)
          clear hK K
          try simp only [Act.put, List.setIfInBounds_toArray, List.set_cons_zero, List.set_cons_succ]
          refine readyJ (rs := [15]) (by kernel_rfl) (by simp) (AllJ.cons rfl ?j12o15 AllJ.nil)
          case j12o15 =>
           intro K hK
           have k0 := FH.c 9 0 rfl rfl
           have kf := FH.f 9 0 rfl rfl
           go_simp
           have FI := FH.set 9 rfl (by simp) [.int .i64 (out : Int)] rfl
           simp only [setL, List.set_cons_zero, List.set_cons_succ] at FI
           clear k0 kf
           refine hK.out _ _ (fun _ => trivial) ⟨FI.c 1 0 rfl rfl, (FI.bel.cell (p := ⟨b1, o1, none⟩) HB1L.out).trans HDW.out⟩ (fun hHeld hHeld1 => ?_)
           clear hK K
           try simp only [Act.put, List.setIfInBounds_toArray, List.set_cons_zero, List.set_cons_succ]
           refine doneJ (by kernel_rfl) ?_
           dsimp only
           go_wp2
           go_meet
           exact ⟨p9, q9, rfl, rfl, Lib.hid (FI)⟩
       case a13 =>
        intro K hK
        go_simp
        obtain ⟨q9, hq9⟩ : ∃ x, w0.heap.size = x := ⟨_, rfl⟩
        rw [hq9]
        have FE := FD.box1 hq9 [.int .i64 0] 3
        simp only [List.cons_append, List.nil_append] at FE
        obtain ⟨w1, hw1⟩ : ∃ zz, (w0.alloc (.cells #[.int .i64 0] 3)) = zz := ⟨_, rfl⟩
        rw [hw1] at FE ⊢
        clear hw1 hq9 FD
        refine hK.out _ _ (fun _ => trivial) ⟨FE.c 1 0 rfl rfl, (FE.bel.cell (p := ⟨b1, o1, none⟩) HB1L.out).trans HDW.out⟩ (fun hHeld hHeld1 => ?_)
        clear hK K
        try simp only [Act.put, List.setIfInBounds_toArray, List.set_cons_zero, List.set_cons_succ]
        refine readyJ (rs := [12]) (by kernel_rfl) (by simp) (AllJ.cons rfl ?j12o16 AllJ.nil)
        case j12o16 =>
         intro K hK
         go_simp
         obtain ⟨p9, hp9⟩ : ∃ x, w1.heap.size = x := ⟨_, rfl⟩
         rw [hp9]
         have FG := FE.box1 hp9 [.int .i64 0] 3
         simp only [List.cons_append, List.nil_append] at FG
         obtain ⟨w2, hw2⟩ : ∃ zz, (w1.alloc (.cells #[.int .i64 0] 3)) = zz := ⟨_, rfl⟩
         rw [hw2] at FG ⊢
         clear hw2 hp9 FE
         refine hK.out _ _ (fun _ => trivial) ⟨FG.c 1 0 rfl rfl, (FG.bel.cell (p := ⟨b1, o1, none⟩) HB1L.out).trans HDW.out⟩ (fun hHeld hHeld1 => ?_)
         clear hK K
         try simp only [Act.put, List.setIfInBounds_toArray, List.set_cons_zero, List.set_cons_succ]
         refine readyJ (rs := [14]) (by kernel_rfl) (by simp) (AllJ.cons rfl ?j12o17 AllJ.nil)
         case j12o17 =>
          intro K hK
          have k0 := FG.c 9 0 rfl rfl
          have kf := FG.f 9 0 rfl rfl
          go_simp
          have FH := FG.set 9 rfl (by simp) [.int .i64 (one : Int)] rfl
          simp only [setL, List.set_cons_zero, List.set_cons_succ] at FH
          clear k0 kf
          refine hK.out _ _ (fun _ => trivial) ⟨FH.c 1 0 rfl rfl, (FH.bel.cell (p := ⟨b1, o1, none⟩) HB1L.out).trans HDW.out⟩ (fun hHeld hHeld1 => ?_)
          clear hK K
          try simp only [Act.put, List.setIfInBounds_toArray, List.set_cons_zero, List.set_cons_succ]
          refine readyJ (rs := [15]) (by kernel_rfl) (by simp) (AllJ.cons rfl ?j12o18 AllJ.nil)
          case j12o18 =>
           intro K hK
           have k0 := FH.c 8 0 rfl rfl
           have kf := FH.f 8 0 rfl rfl
           go_simp
           have FI := FH.set 8 rfl (by simp) [.int .i64 (out : Int)] rfl
           simp only [setL, List.set_cons_zero, List.set_cons_succ] at FI
           clear k0 kf
           refine hK.out _ _ (fun _ => trivial) ⟨FI.c 1 0 rfl rfl, (FI.bel.cell (p := ⟨b1, o1, none⟩) HB1L.out).trans HDW.out⟩ (fun hHeld hHeld1 => ?_)
           clear hK K
           try simp only [Act.put, List.setIfInBounds_toArray, List.set_cons_zero, List.set_cons_succ]
           refine doneJ (by kernel_rfl) ?_
           dsimp only
           go_wp2
           go_meet
           exact ⟨p9, q9, rfl, rfl, Lib.hid (Fr.perm FI (.cons _ (.cons _ (.cons _ (.cons _ (.cons _ (.cons _ (.cons _ (.cons _ (.swap _ _ _))))))))))⟩
      case rest =>
       obtain ⟨p, q, rfl, rfl, F14⟩ := hcut
       clear F13
       obtain ⟨V2, rfl⟩ : ∃ x : World, x = wc := ⟨_, rfl⟩
       go_upto_region 14 with fail
       obtain ⟨Yb, hYb⟩ : ∃ x, V2.heap.size = x := ⟨_, rfl⟩
       try rw [hYb]
       have F15 := Lib.hid (F14.out.box1 (b := Yb) hYb [.int .i64 0, .int .u64 0] 83)
       simp only [List.nil_append, List.cons_append] at F15
       obtain ⟨W15, hW15⟩ : ∃ x, V2.alloc (.cells #[.int .i64 0, .int .u64 0] 83) = x := ⟨_, rfl⟩
       rw [hW15] at F15 ⊢
       clear hW15 hYb F14
       have hfr := fun W (h : Ints .i64 W W.heap.size aO wv.O) => from_anyW (some ⟨b0, o0 + 2, none⟩) (some ⟨b1, o1 + 2, none⟩) aO aQ aS aP aD cl ck cO cQ cS cP cD Q wv pl W h HK.out.gO (by have := HAT.out.2.2; omega)
       have HFR := Lib.hid hfr
       clear hfr
       have c4_0 := F15.out.c 4 0 rfl rfl
       have c4_1 := F15.out.c 4 1 rfl rfl
       have c4_2 := F15.out.c 4 2 rfl rfl
       have c4_3 := F15.out.c 4 3 rfl rfl
       have c4_4 := F15.out.c 4 4 rfl rfl
       have c4_5 := F15.out.c 4 5 rfl rfl
       have c4_6 := F15.out.c 4 6 rfl rfl
       go_upto_block 2 with (first | (go_at_call 40; refine (HFR.out _ (F15.out.li 0 (k := .i64) (xs := wv.O) rfl HOWF.out)).mono ?_; rintro e w16 ⟨q1, ap, cp, rfl, hf⟩; have F16 := Lib.hid (F15.out.join2 hf); simp only [List.nil_append, List.cons_append, List.append_nil] at F16; clear hf F15 c4_0 c4_1 c4_2 c4_3 c4_4 c4_5 c4_6) | fail)
       obtain ⟨X1, hX1⟩ : ∃ x, W15.heap.size = x := ⟨_, rfl⟩
       rw [hX1] at F16 ⊢
       clear hX1
       obtain ⟨D, hD⟩ : ∃ D, w16.heap.size = D := ⟨_, rfl⟩
       have e0 : Value.int .u64 0 = .int .u64 (0 % 18446744073709551616) := rfl
       clear e0
       have hswf9 : ∀ x ∈ standsI wv.O (pl : Int), (Lit.int .i64 x).wf = true := wf_stands (goodB_dims HK.out.gO)
       have HSWF9 := Lib.hid hswf9
       clear hswf9
       go_wp2
       refine wpIn_wide.1 (wpIn_rangeFunc_any (n := 20) rfl (by omega) (gf := 75) (lb := #[.pointer (some ⟨X1, 0, none⟩), .pointer (some ⟨q1, 0, none⟩), .pointer (some ⟨X1 + 1, 0, none⟩)]) rfl trivial (enters_of Tryz.func75 (by kernel_rfl) rfl) D hD
        (fun W2 => ∃ o, Hid (Fr w.heap.size w W2 [(w.heap.size, [.slice (some ⟨b0, o0, none⟩) xs.length c, .slice b ys.length d]), (w.heap.size + 1, [.slice (some ⟨b1, o1, none⟩) ws.length c2, .slice b2 vs.length dw]), (w.heap.size + 1 + 1, [.slice aQ Q.length cQ, .slice aS wv.S.length cS, .slice aP wv.P.length cP, .slice aD wv.D.length cD]), (w.heap.size + 1 + 1 + 1, [.slice none 0 0, .slice none 0 0]), (Y7, [.slice (some ⟨b0, o0 + 2, none⟩) wv.L.length cl, .slice (some ⟨b1, o1 + 2, none⟩) wv.K.length ck, .slice aO wv.O.length cO, .slice aQ Q.length cQ, .slice aS wv.S.length cS, .slice aP wv.P.length cP, .slice aD wv.D.length cD]), (Q9, [.slice as_ S.length cs_, .slice (some ⟨gd, 0, none⟩) NN dd]), (b7, [.int .i64 (C : Int)]), (b8, [.int .i64 (M : Int)]), (p, [.int .i64 (one : Int)]), (q, [.int .i64 (out : Int)]), (Yb, [.int .i64 ((cvSum wv ys vs C M T pl one out T) / 18446744073709551616), .int .u64 ((cvSum wv ys vs C M T pl one out T) % 18446744073709551616)]), (X1, [.slice (some ⟨b0, o0 + 2, none⟩) wv.L.length cl, .slice (some ⟨b1, o1 + 2, none⟩) wv.K.length ck, .slice aO wv.O.length cO, .slice aQ Q.length cQ, .slice aS wv.S.length cS, .slice aP wv.P.length cP, .slice aD wv.D.length cD]), (X1 + 1, [.int .i64 (pl : Int)]), (q1, [.slice ap wv.O.length cp])] [(.i64, (some ⟨b0, o0, none⟩), xs), (.i64, b, ys), (.i64, (some ⟨b1, o1, none⟩), ws), (.i64, b2, vs), (.i64, aQ, Q), (.i64, aS, wv.S), (.i64, aP, wv.P), (.i64, aD, wv.D), (.i64, (some ⟨b0, o0 + 2, none⟩), wv.L), (.i64, (some ⟨b1, o1 + 2, none⟩), wv.K)] [⟨3, .slice aO wv.O.length cO, wv.O.length, wv.O.map (Value.int .i64)⟩, ⟨3, .slice as1 S.length cs1, S.length, S.map (Value.int .i64)⟩, ⟨3, .slice as_ S.length cs_, S.length, S.map (Value.int .i64)⟩, ⟨2, .slice (some ⟨gd, 0, none⟩) NN dd, NN, LD⟩, ⟨3, .slice ap wv.O.length cp, wv.O.length, (standsI wv.O (pl : Int)).map (Value.int .i64)⟩] ((D + 1, o) :: (D, .deferred (some [])) :: mkM Ds))) (fun _ _ => False) ?hcall ?hdone ?hstop)
       case hstop =>
        intro cc W2 o ho hf
        exact hf.elim
       case hcall =>
        intro fn9 R9 hfn hR
        have HR := Lib.hid hR
        clear hR
        have F17 := Lib.hid (((F16.out.recM hD (.deferred (some [])) rfl).frontM.recM (b := D + 1) (by simp [hD]) (.loop (R9 .ready none)) rfl).frontM)
        have hsz11 : ((w16.alloc (.deferred (some []))).alloc (.loop (R9 .ready none))).heap.size = D + 2 := by simp [hD]
        obtain ⟨W17, hW17⟩ : ∃ x, ((w16.alloc (.deferred (some []))).alloc (.loop (R9 .ready none))) = x := ⟨_, rfl⟩
        rw [hW17] at F17 hsz11 ⊢
        have H0 := FrS.of F17.out (fun p hp => (Array.getElem?_eq_some_iff.1 (F17.out.obj p hp).1).1)
        rw [hsz11] at H0
        have HJ0 := Lib.hid H0
        clear hW17 F16 H0 F17
        refine (fromIter 19 (by omega) (D + 1) X1 q1 (X1 + 1) T pl (some ⟨b0, o0 + 2, none⟩) (some ⟨b1, o1 + 2, none⟩) aO aQ aS aP aD cl ck cO cQ cS cP cD Q wv ap cp W17 (fun k V => FrS (D + 2) w.heap.size w V [(w.heap.size, [.slice (some ⟨b0, o0, none⟩) xs.length c, .slice b ys.length d]), (w.heap.size + 1, [.slice (some ⟨b1, o1, none⟩) ws.length c2, .slice b2 vs.length dw]), (w.heap.size + 1 + 1, [.slice aQ Q.length cQ, .slice aS wv.S.length cS, .slice aP wv.P.length cP, .slice aD wv.D.length cD]), (w.heap.size + 1 + 1 + 1, [.slice none 0 0, .slice none 0 0]), (Y7, [.slice (some ⟨b0, o0 + 2, none⟩) wv.L.length cl, .slice (some ⟨b1, o1 + 2, none⟩) wv.K.length ck, .slice aO wv.O.length cO, .slice aQ Q.length cQ, .slice aS wv.S.length cS, .slice aP wv.P.length cP, .slice aD wv.D.length cD]), (Q9, [.slice as_ S.length cs_, .slice (some ⟨gd, 0, none⟩) NN dd]), (b7, [.int .i64 (C : Int)]), (b8, [.int .i64 (M : Int)]), (p, [.int .i64 (one : Int)]), (q, [.int .i64 (out : Int)]), (Yb, [.int .i64 ((cvSum wv ys vs C M T pl one out k) / 18446744073709551616), .int .u64 ((cvSum wv ys vs C M T pl one out k) % 18446744073709551616)]), (X1, [.slice (some ⟨b0, o0 + 2, none⟩) wv.L.length cl, .slice (some ⟨b1, o1 + 2, none⟩) wv.K.length ck, .slice aO wv.O.length cO, .slice aQ Q.length cQ, .slice aS wv.S.length cS, .slice aP wv.P.length cP, .slice aD wv.D.length cD]), (X1 + 1, [.int .i64 (pl : Int)]), (q1, [.slice ap wv.O.length cp])] [(.i64, (some ⟨b0, o0, none⟩), xs), (.i64, b, ys), (.i64, (some ⟨b1, o1, none⟩), ws), (.i64, b2, vs), (.i64, aQ, Q), (.i64, aS, wv.S), (.i64, aP, wv.P), (.i64, aD, wv.D), (.i64, (some ⟨b0, o0 + 2, none⟩), wv.L), (.i64, (some ⟨b1, o1 + 2, none⟩), wv.K)] [⟨3, .slice aO wv.O.length cO, wv.O.length, wv.O.map (Value.int .i64)⟩, ⟨3, .slice as1 S.length cs1, S.length, S.map (Value.int .i64)⟩, ⟨3, .slice as_ S.length cs_, S.length, S.map (Value.int .i64)⟩, ⟨2, .slice (some ⟨gd, 0, none⟩) NN dd, NN, LD⟩, ⟨3, .slice ap wv.O.length cp, wv.O.length, (standsI wv.O (pl : Int)).map (Value.int .i64)⟩] ((D + 1, .loop (R9 .ready none)) :: (D, .deferred (some [])) :: mkM Ds)) (fun _ => False) HK.out.hR HK.out.hok HK.out.hr HK.out.gO HK.out.gK HK.out.hT (fun k W1 W2 h hb => h.below (hb.mono h.sz)) ?hJB ?hskip ?hY HJ0.out).mono ?post
        case post =>
         rintro e V ⟨hv, h | h⟩
         ·exact ⟨hv, .inl ⟨⟨_, Lib.hid h.fr⟩, h.fr.m 0 rfl⟩⟩
         ·exact h.elim
        case hJB =>
         rintro k V h
         exact ⟨(h.fr.box _ (List.mem_of_getElem? (i := 11) rfl)).1, (h.fr.box _ (List.mem_of_getElem? (i := 13) rfl)).1, (h.fr.box _ (List.mem_of_getElem? (i := 12) rfl)).1, ⟨h.fr.lw 8 rfl, h.fr.lw 9 rfl, h.fr.li 0 (k := .i64) (xs := wv.O) rfl HOWF.out, h.fr.lw 5 rfl, h.fr.lw 6 rfl, h.fr.lw 7 rfl⟩, h.fr.li 4 (k := .i64) (xs := standsI wv.O (pl : Int)) rfl HSWF9.out⟩
        case hskip =>
         intro t V1 ht hf hj
         have e : cvSum wv ys vs C M T pl one out (t + 1) = cvSum wv ys vs C M T pl one out t := by rw [cvSum, if_neg (by rw [hf]; decide)]
         rw [e]
         exact hj
        case hY =>
         rintro t V1 ht htw hj
         have hat := HAT.out
         have hwib := WinV.wI_bound HK.out.hR htw
         rw [HK.out.hM] at hwib
         obtain ⟨pz, hpz⟩ : ∃ z : Nat, wv.wI pl t = (z : Int) := ⟨(wv.wI pl t).toNat, by omega⟩
         have hst : cvSum wv ys vs C M T pl one out (t + 1) = cvSum wv ys vs C M T pl one out t + cvIn ys vs C M T one out pz t C := by rw [cvSum, if_pos htw, hpz, Int.toNat_natCast]
         rw [hpz] at hwib ⊢
         rw [hst]
         have hct := HCT.out
         have hpin := fun k (hk : k ≤ C) => part_inR (tenB_iff.1 HK.out.tx).2.2 (tenB_iff.1 HK.out.tw).2.2 wv hct M pl one out pz ht hk
         have HPIN := Lib.hid hpin
         have HPZ := Lib.hid (show pz < M by omega)
         have HTT := Lib.hid ht
         clear hst hpin hpz hwib hat hct htw ht
         obtain ⟨sk, hsk⟩ : ∃ z, cvSum wv ys vs C M T pl one out t = z := ⟨_, rfl⟩
         rw [hsk] at hj HPIN ⊢
         clear hsk
         refine yieldAt_roundR hfn HR.out (hj.fr.m 0 rfl) rfl ?_
         obtain ⟨Y, hY2⟩ : ∃ x, V1.heap.size = x := ⟨_, rfl⟩
         have J2 := Lib.hid (hj.fr.box1 (b := Y) hY2 [.int .i64 (pl : Int), .int .i64 (t : Int), .int .i64 (pz : Int)] 88)
         simp only [List.nil_append, List.cons_append] at J2
         have hkA := Kept.of_below (S := D + 2) ((Below.refl V1.heap.size V1).alloc (Nat.le_refl _) (.cells #[.int .i64 (pl : Int), .int .i64 (t : Int), .int .i64 (pz : Int)] 88))
         obtain ⟨VA, hVA⟩ : ∃ x, V1.alloc (.cells #[.int .i64 (pl : Int), .int .i64 (t : Int), .int .i64 (pz : Int)] 88) = x := ⟨_, rfl⟩
         rw [hVA] at J2 hkA
         have HVA := Lib.hid hVA
         have G1 := Lib.hid (J2.out.putM 0 rfl (.loop (R9 .busy none)) rfl)
         simp only [List.set_cons_zero, List.set_cons_succ] at G1
         have HJ := Lib.hid hj
         have HKP := Lib.hid (hkA.trans (Kept.putObj (D + 2) VA (D + 1) (.loop (R9 .busy none)) (by omega)))
         have HYL := Lib.hid (show D + 2 ≤ Y by have := hj.sz; omega)
         clear hj hfn HJ0 hkA hVA
         gi_wp2
         rw [HVA.out]
         refine ⟨J2.out.m 0 rfl, ?_⟩
         obtain ⟨V, hV⟩ : ∃ V, VA.putObj (D + 1) (.loop (R9 .busy none)) = V := ⟨_, rfl⟩
         rw [hV] at G1 HKP ⊢
         clear hV J2
         have hcC := G1.out.c 6 0 rfl rfl
         (repeat gi_step)
         have e00 : sk + cvIn ys vs C M T one out pz t 0 = sk := by simp [cvIn]
         have G2 : Hid (Fr w.heap.size w V [(w.heap.size, [.slice (some ⟨b0, o0, none⟩) xs.length c, .slice b ys.length d]), (w.heap.size + 1, [.slice (some ⟨b1, o1, none⟩) ws.length c2, .slice b2 vs.length dw]), (w.heap.size + 1 + 1, [.slice aQ Q.length cQ, .slice aS wv.S.length cS, .slice aP wv.P.length cP, .slice aD wv.D.length cD]), (w.heap.size + 1 + 1 + 1, [.slice none 0 0, .slice none 0 0]), (Y7, [.slice (some ⟨b0, o0 + 2, none⟩) wv.L.length cl, .slice (some ⟨b1, o1 + 2, none⟩) wv.K.length ck, .slice aO wv.O.length cO, .slice aQ Q.length cQ, .slice aS wv.S.length cS, .slice aP wv.P.length cP, .slice aD wv.D.length cD]), (Q9, [.slice as_ S.length cs_, .slice (some ⟨gd, 0, none⟩) NN dd]), (b7, [.int .i64 (C : Int)]), (b8, [.int .i64 (M : Int)]), (p, [.int .i64 (one : Int)]), (q, [.int .i64 (out : Int)]), (Yb, [.int .i64 ((sk + (cvIn ys vs C M T one out pz t 0)) / 18446744073709551616), .int .u64 ((sk + (cvIn ys vs C M T one out pz t 0)) % 18446744073709551616)]), (X1, [.slice (some ⟨b0, o0 + 2, none⟩) wv.L.length cl, .slice (some ⟨b1, o1 + 2, none⟩) wv.K.length ck, .slice aO wv.O.length cO, .slice aQ Q.length cQ, .slice aS wv.S.length cS, .slice aP wv.P.length cP, .slice aD wv.D.length cD]), (X1 + 1, [.int .i64 (pl : Int)]), (q1, [.slice ap wv.O.length cp]), (Y, [.int .i64 (pl : Int), .int .i64 (t : Int), .int .i64 (pz : Int)])] [(.i64, (some ⟨b0, o0, none⟩), xs), (.i64, b, ys), (.i64, (some ⟨b1, o1, none⟩), ws), (.i64, b2, vs), (.i64, aQ, Q), (.i64, aS, wv.S), (.i64, aP, wv.P), (.i64, aD, wv.D), (.i64, (some ⟨b0, o0 + 2, none⟩), wv.L), (.i64, (some ⟨b1, o1 + 2, none⟩), wv.K)] [⟨3, .slice aO wv.O.length cO, wv.O.length, wv.O.map (Value.int .i64)⟩, ⟨3, .slice as1 S.length cs1, S.length, S.map (Value.int .i64)⟩, ⟨3, .slice as_ S.length cs_, S.length, S.map (Value.int .i64)⟩, ⟨2, .slice (some ⟨gd, 0, none⟩) NN dd, NN, LD⟩, ⟨3, .slice ap wv.O.length cp, wv.O.length, (standsI wv.O (pl : Int)).map (Value.int .i64)⟩] ((D + 1, .loop (R9 .busy none)) :: (D, .deferred (some [])) :: mkM Ds)) := by rw [e00]; exact G1
         clear e00 G1 hcC
         gi_loopw [23, 96] (fun s23 s96 wr => ∃ k : Nat, k ≤ C ∧ s96 = .int .i64 k ∧ Hid (Kept (D + 2) V1 wr) ∧ Hid (Fr w.heap.size w wr [(w.heap.size, [.slice (some ⟨b0, o0, none⟩) xs.length c, .slice b ys.length d]), (w.heap.size + 1, [.slice (some ⟨b1, o1, none⟩) ws.length c2, .slice b2 vs.length dw]), (w.heap.size + 1 + 1, [.slice aQ Q.length cQ, .slice aS wv.S.length cS, .slice aP wv.P.length cP, .slice aD wv.D.length cD]), (w.heap.size + 1 + 1 + 1, [.slice none 0 0, .slice none 0 0]), (Y7, [.slice (some ⟨b0, o0 + 2, none⟩) wv.L.length cl, .slice (some ⟨b1, o1 + 2, none⟩) wv.K.length ck, .slice aO wv.O.length cO, .slice aQ Q.length cQ, .slice aS wv.S.length cS, .slice aP wv.P.length cP, .slice aD wv.D.length cD]), (Q9, [.slice as_ S.length cs_, .slice (some ⟨gd, 0, none⟩) NN dd]), (b7, [.int .i64 (C : Int)]), (b8, [.int .i64 (M : Int)]), (p, [.int .i64 (one : Int)]), (q, [.int .i64 (out : Int)]), (Yb, [.int .i64 ((sk + (cvIn ys vs C M T one out pz t k)) / 18446744073709551616), .int .u64 ((sk + (cvIn ys vs C M T one out pz t k)) % 18446744073709551616)]), (X1, [.slice (some ⟨b0, o0 + 2, none⟩) wv.L.length cl, .slice (some ⟨b1, o1 + 2, none⟩) wv.K.length ck, .slice aO wv.O.length cO, .slice aQ Q.length cQ, .slice aS wv.S.length cS, .slice aP wv.P.length cP, .slice aD wv.D.length cD]), (X1 + 1, [.int .i64 (pl : Int)]), (q1, [.slice ap wv.O.length cp]), (Y, [.int .i64 (pl : Int), .int .i64 (t : Int), .int .i64 (pz : Int)])] [(.i64, (some ⟨b0, o0, none⟩), xs), (.i64, b, ys), (.i64, (some ⟨b1, o1, none⟩), ws), (.i64, b2, vs), (.i64, aQ, Q), (.i64, aS, wv.S), (.i64, aP, wv.P), (.i64, aD, wv.D), (.i64, (some ⟨b0, o0 + 2, none⟩), wv.L), (.i64, (some ⟨b1, o1 + 2, none⟩), wv.K)] [⟨3, .slice aO wv.O.length cO, wv.O.length, wv.O.map (Value.int .i64)⟩, ⟨3, .slice as1 S.length cs1, S.length, S.map (Value.int .i64)⟩, ⟨3, .slice as_ S.length cs_, S.length, S.map (Value.int .i64)⟩, ⟨2, .slice (some ⟨gd, 0, none⟩) NN dd, NN, LD⟩, ⟨3, .slice ap wv.O.length cp, wv.O.length, (standsI wv.O (pl : Int)).map (Value.int .i64)⟩] ((D + 1, .loop (R9 .busy none)) :: (D, .deferred (some [])) :: mkM Ds))) (fun _ s96 _ => C - (intOf s96).toNat)
         case atStart => exact ⟨0, Nat.zero_le _, rfl, HKP, G2⟩
         case round =>
          obtain ⟨k, hk, rfl, HK3, G3⟩ := hrel
          clear G2 HKP
          obtain ⟨wi, rfl⟩ : ∃ x : World, x = wr := ⟨_, rfl⟩
          by_cases hlk : k < C
          ·skip
           have hat := HAT.out
           have hix := in_row (a := one) (R := R) hat.1 hlk HPZ.out
           have hjx := in_row (a := out) (R := o) hat.2.1 hlk HTT.out
           rw [← HK.out.yl] at hix
           rw [← HK.out.vl] at hjx
           have hp9 := HPIN.out (k + 1) hlk
           have hcv : sk + cvIn ys vs C M T one out pz t (k + 1) = sk + cvIn ys vs C M T one out pz t k + (ys[(one * C + k) * M + pz]?.getD 0) * (vs[(out * C + k) * T + t]?.getD 0) := by rw [cvIn]; omega
           have hp8 := HPIN.out k hk
           rw [hcv] at hp9
           have hyb := get_word (tenB_iff.1 HK.out.tx).2.2 ((one * C + k) * M + pz)
           have hvb := get_word (tenB_iff.1 HK.out.tw).2.2 ((out * C + k) * T + t)
           obtain ⟨oc, hqoc⟩ : ∃ z : Nat, one * C = z := ⟨_, rfl⟩
           rw [hqoc] at hix hcv hp9 hyb
           obtain ⟨ok9, hqok9⟩ : ∃ z : Nat, oc + k = z := ⟨_, rfl⟩
           rw [hqok9] at hix hcv hp9 hyb
           obtain ⟨im, hqim⟩ : ∃ z : Nat, ok9 * M = z := ⟨_, rfl⟩
           rw [hqim] at hix hcv hp9 hyb
           obtain ⟨ix, hqix⟩ : ∃ z : Nat, im + pz = z := ⟨_, rfl⟩
           rw [hqix] at hix hcv hp9 hyb
           obtain ⟨uc, hquc⟩ : ∃ z : Nat, out * C = z := ⟨_, rfl⟩
           rw [hquc] at hjx hcv hp9 hvb
           obtain ⟨uk, hquk⟩ : ∃ z : Nat, uc + k = z := ⟨_, rfl⟩
           rw [hquk] at hjx hcv hp9 hvb
           obtain ⟨jt, hqjt⟩ : ∃ z : Nat, uk * T = z := ⟨_, rfl⟩
           rw [hqjt] at hjx hcv hp9 hvb
           obtain ⟨jx, hqjx⟩ : ∃ z : Nat, jt + t = z := ⟨_, rfl⟩
           rw [hqjx] at hjx hcv hp9 hvb
           have hbd := HK.out.bounds
           have hle1 : ok9 ≤ im := by rw [← hqim]; exact Nat.le_mul_of_pos_right _ HK.out.m1
           have hle2 : uk ≤ jt := by rw [← hqjt]; exact Nat.le_mul_of_pos_right _ HK.out.t1
           obtain ⟨y9, hy9⟩ : ∃ z, ys[ix]?.getD 0 = z := ⟨_, rfl⟩
           obtain ⟨v9, hv9⟩ : ∃ z, vs[jx]?.getD 0 = z := ⟨_, rfl⟩
           rw [hy9] at hcv hp9 hyb
           rw [hv9] at hcv hp9 hvb
           have hmw := mul_word hyb hvb
           have hmul := fun W => mul_any y9 v9 W (by omega) (by omega) (by omega) (by omega)
           obtain ⟨s9, hs9⟩ : ∃ z, sk + cvIn ys vs C M T one out pz t k = z := ⟨_, rfl⟩
           rw [hs9] at hcv hp9 hp8 G3
           obtain ⟨m9, hm9⟩ : ∃ z, y9 * v9 = z := ⟨_, rfl⟩
           rw [hm9] at hcv hp9 hmul hmw
           have hmr : inR m9 := by unfold inR; omega
           have hadd := fun W => add_in _ _ _ _ W (WR_split hp8) (WR_split hmr) (by rw [V_split, V_split]; exact hp9)
           rw [V_split, V_split] at hadd
           have hkC : (k : Int) < (C : Int) := by omega
           have e0 : IntKind.i64.wrap ((one : Int) * (C : Int)) = (oc : Int) := by rw [show ((one : Int) * (C : Int)) = ((oc : Nat) : Int) by rw [← hqoc, Int.natCast_mul]]; exact IntWalk.i64_in _ (by omega)
           have e1 : IntKind.i64.wrap ((oc : Int) + (k : Int)) = (ok9 : Int) := by rw [show ((oc : Int) + (k : Int)) = ((ok9 : Nat) : Int) by omega]; exact IntWalk.i64_in _ (by omega)
           have e2 : IntKind.i64.wrap ((ok9 : Int) * (M : Int)) = (im : Int) := by rw [show ((ok9 : Int) * (M : Int)) = ((im : Nat) : Int) by rw [← hqim, Int.natCast_mul]]; exact IntWalk.i64_in _ (by omega)
           have e3 : IntKind.i64.wrap ((im : Int) + (pz : Int)) = (ix : Int) := by rw [show ((im : Int) + (pz : Int)) = ((ix : Nat) : Int) by omega]; exact IntWalk.i64_in _ (by omega)
           have e4 : IntKind.i64.wrap ((out : Int) * (C : Int)) = (uc : Int) := by rw [show ((out : Int) * (C : Int)) = ((uc : Nat) : Int) by rw [← hquc, Int.natCast_mul]]; exact IntWalk.i64_in _ (by omega)
           have e5 : IntKind.i64.wrap ((uc : Int) + (k : Int)) = (uk : Int) := by rw [show ((uc : Int) + (k : Int)) = ((uk : Nat) : Int) by omega]; exact IntWalk.i64_in _ (by omega)
           have e6 : IntKind.i64.wrap ((uk : Int) * (T : Int)) = (jt : Int) := by rw [show ((uk : Int) * (T : Int)) = ((jt : Nat) : Int) by rw [← hqjt, Int.natCast_mul]]; exact IntWalk.i64_in _ (by omega)
           have e7 : IntKind.i64.wrap ((jt : Int) + (t : Int)) = (jx : Int) := by rw [show ((jt : Int) + (t : Int)) = ((jx : Nat) : Int) by omega]; exact IntWalk.i64_in _ (by omega)
           have htp := fun W (h : Ints .i64 W W.heap.size (some ⟨b1, o1 + 2, none⟩) wv.K) => winTaps_any (some ⟨b0, o0 + 2, none⟩) (some ⟨b1, o1 + 2, none⟩) aO aQ aS aP aD cl ck cO cQ cS cP cD Q wv W h HK.out.gK
           rw [HK.out.hT] at htp
           obtain ⟨gy, oy, rfl, _, _⟩ := (G3.out.l 1 rfl).cell ix hix
           obtain ⟨gv, ov, rfl, _, _⟩ := (G3.out.l 3 rfl).cell jx hjx
           have hixi : (ix : Int) < (ys.length : Int) := by omega
           have hjxi : (jx : Int) < (vs.length : Int) := by omega
           have E0 := Lib.hid e0
           have E1 := Lib.hid e1
           have E2 := Lib.hid e2
           have E3 := Lib.hid e3
           have E4 := Lib.hid e4
           have E5 := Lib.hid e5
           have E6 := Lib.hid e6
           have E7 := Lib.hid e7
           have HTP := Lib.hid htp
           have HMUL := Lib.hid hmul
           have HADD := Lib.hid hadd
           have HY9 := Lib.hid hy9
           have HV9 := Lib.hid hv9
           have HIX := Lib.hid hix
           have HJX := Lib.hid hjx
           have HCV := Lib.hid hcv
           have HLK := Lib.hid hlk
           clear hat hp9 hp8 hcv hyb hvb hmw hmul hmr hadd htp hy9 hv9 hs9 hm9 hbd hle1 hle2 hqoc hqok9 hqim hqix hquc hquk hqjt hqjx e0 e1 e2 e3 e4 e5 e6 e7
           (repeat gi_step)
           refine wpIn_region_inv (w := wi) 36 (fun W1 W2 => Kept (D + 2) W1 W2) (fun k9 W => (k9 = 0 → Fr w.heap.size w W [(w.heap.size, [.slice (some ⟨b0, o0, none⟩) xs.length c, .slice (some ⟨gy, oy, none⟩) ys.length d]), (w.heap.size + 1, [.slice (some ⟨b1, o1, none⟩) ws.length c2, .slice (some ⟨gv, ov, none⟩) vs.length dw]), (w.heap.size + 1 + 1, [.slice aQ Q.length cQ, .slice aS wv.S.length cS, .slice aP wv.P.length cP, .slice aD wv.D.length cD]), (w.heap.size + 1 + 1 + 1, [.slice none 0 0, .slice none 0 0]), (Y7, [.slice (some ⟨b0, o0 + 2, none⟩) wv.L.length cl, .slice (some ⟨b1, o1 + 2, none⟩) wv.K.length ck, .slice aO wv.O.length cO, .slice aQ Q.length cQ, .slice aS wv.S.length cS, .slice aP wv.P.length cP, .slice aD wv.D.length cD]), (Q9, [.slice as_ S.length cs_, .slice (some ⟨gd, 0, none⟩) NN dd]), (b7, [.int .i64 (C : Int)]), (b8, [.int .i64 (M : Int)]), (p, [.int .i64 (one : Int)]), (q, [.int .i64 (out : Int)]), (Yb, [.int .i64 (s9 / 18446744073709551616), .int .u64 (s9 % 18446744073709551616)]), (X1, [.slice (some ⟨b0, o0 + 2, none⟩) wv.L.length cl, .slice (some ⟨b1, o1 + 2, none⟩) wv.K.length ck, .slice aO wv.O.length cO, .slice aQ Q.length cQ, .slice aS wv.S.length cS, .slice aP wv.P.length cP, .slice aD wv.D.length cD]), (X1 + 1, [.int .i64 (pl : Int)]), (q1, [.slice ap wv.O.length cp]), (Y, [.int .i64 (pl : Int), .int .i64 (t : Int), .int .i64 (pz : Int)])] [(.i64, (some ⟨b0, o0, none⟩), xs), (.i64, (some ⟨gy, oy, none⟩), ys), (.i64, (some ⟨b1, o1, none⟩), ws), (.i64, (some ⟨gv, ov, none⟩), vs), (.i64, aQ, Q), (.i64, aS, wv.S), (.i64, aP, wv.P), (.i64, aD, wv.D), (.i64, (some ⟨b0, o0 + 2, none⟩), wv.L), (.i64, (some ⟨b1, o1 + 2, none⟩), wv.K)] [⟨3, .slice aO wv.O.length cO, wv.O.length, wv.O.map (Value.int .i64)⟩, ⟨3, .slice as1 S.length cs1, S.length, S.map (Value.int .i64)⟩, ⟨3, .slice as_ S.length cs_, S.length, S.map (Value.int .i64)⟩, ⟨2, .slice (some ⟨gd, 0, none⟩) NN dd, NN, LD⟩, ⟨3, .slice ap wv.O.length cp, wv.O.length, (standsI wv.O (pl : Int)).map (Value.int .i64)⟩] ((D + 1, .loop (R9 .busy none)) :: (D, .deferred (some [])) :: mkM Ds)) ∧ (k9 = 1 → Fr w.heap.size w W [(w.heap.size, [.slice (some ⟨b0, o0, none⟩) xs.length c, .slice (some ⟨gy, oy, none⟩) ys.length d]), (w.heap.size + 1, [.slice (some ⟨b1, o1, none⟩) ws.length c2, .slice (some ⟨gv, ov, none⟩) vs.length dw]), (w.heap.size + 1 + 1, [.slice aQ Q.length cQ, .slice aS wv.S.length cS, .slice aP wv.P.length cP, .slice aD wv.D.length cD]), (w.heap.size + 1 + 1 + 1, [.slice none 0 0, .slice none 0 0]), (Y7, [.slice (some ⟨b0, o0 + 2, none⟩) wv.L.length cl, .slice (some ⟨b1, o1 + 2, none⟩) wv.K.length ck, .slice aO wv.O.length cO, .slice aQ Q.length cQ, .slice aS wv.S.length cS, .slice aP wv.P.length cP, .slice aD wv.D.length cD]), (Q9, [.slice as_ S.length cs_, .slice (some ⟨gd, 0, none⟩) NN dd]), (b7, [.int .i64 (C : Int)]), (b8, [.int .i64 (M : Int)]), (p, [.int .i64 (one : Int)]), (q, [.int .i64 (out : Int)]), (Yb, [.int .i64 ((s9 + m9) / 18446744073709551616), .int .u64 ((s9 + m9) % 18446744073709551616)]), (X1, [.slice (some ⟨b0, o0 + 2, none⟩) wv.L.length cl, .slice (some ⟨b1, o1 + 2, none⟩) wv.K.length ck, .slice aO wv.O.length cO, .slice aQ Q.length cQ, .slice aS wv.S.length cS, .slice aP wv.P.length cP, .slice aD wv.D.length cD]), (X1 + 1, [.int .i64 (pl : Int)]), (q1, [.slice ap wv.O.length cp]), (Y, [.int .i64 (pl : Int), .int .i64 (t : Int), .int .i64 (pz : Int)])] [(.i64, (some ⟨b0, o0, none⟩), xs), (.i64, (some ⟨gy, oy, none⟩), ys), (.i64, (some ⟨b1, o1, none⟩), ws), (.i64, (some ⟨gv, ov, none⟩), vs), (.i64, aQ, Q), (.i64, aS, wv.S), (.i64, aP, wv.P), (.i64, aD, wv.D), (.i64, (some ⟨b0, o0 + 2, none⟩), wv.L), (.i64, (some ⟨b1, o1 + 2, none⟩), wv.K)] [⟨3, .slice aO wv.O.length cO, wv.O.length, wv.O.map (Value.int .i64)⟩, ⟨3, .slice as1 S.length cs1, S.length, S.map (Value.int .i64)⟩, ⟨3, .slice as_ S.length cs_, S.length, S.map (Value.int .i64)⟩, ⟨2, .slice (some ⟨gd, 0, none⟩) NN dd, NN, LD⟩, ⟨3, .slice ap wv.O.length cp, wv.O.length, (standsI wv.O (pl : Int)).map (Value.int .i64)⟩] ((D + 1, .loop (R9 .busy none)) :: (D, .deferred (some [])) :: mkM Ds))) [35] [(fun u _ => u = .agg #[.int .i64 (s9 / 18446744073709551616), .int .u64 (s9 % 18446744073709551616)]), (fun u _ => u = .pointer (some ⟨w.heap.size, 1, none⟩)), (fun u _ => u = .slice (some ⟨gy, oy, none⟩) ys.length d), (fun u _ => u = .int .i64 (one : Int)), (fun u _ => u = .int .i64 (C : Int)), (fun u _ => u = .int .i64 (oc : Int)), (fun u _ => u = .int .i64 (k : Int)), (fun u _ => u = .int .i64 (ok9 : Int)), (fun u _ => u = .int .i64 (M : Int)), (fun u _ => u = .int .i64 (im : Int)), (fun u _ => u = .pointer (some ⟨Y, 2, none⟩)), (fun u _ => u = .int .i64 (pz : Int)), (fun u _ => u = .int .i64 (ix : Int)), (fun u _ => u = .pointer (some ⟨gy, oy + ix, none⟩)), (fun u _ => u = .int .i64 y9), (fun u _ => u = .pointer (some ⟨w.heap.size + 1, 1, none⟩)), (fun u _ => u = .slice (some ⟨gv, ov, none⟩) vs.length dw), (fun u _ => u = .int .i64 (out : Int)), (fun u _ => u = .int .i64 (C : Int)), (fun u _ => u = .int .i64 (uc : Int)), (fun u _ => u = .int .i64 (k : Int)), (fun u _ => u = .int .i64 (uk : Int)), (fun u _ => u = .agg #[.slice (some ⟨b0, o0 + 2, none⟩) wv.L.length cl, .slice (some ⟨b1, o1 + 2, none⟩) wv.K.length ck, .slice aO wv.O.length cO, .slice aQ Q.length cQ, .slice aS wv.S.length cS, .slice aP wv.P.length cP, .slice aD wv.D.length cD]), (fun u _ => u = .int .i64 (T : Int)), (fun u _ => u = .int .i64 (jt : Int)), (fun u _ => u = .pointer (some ⟨Y, 1, none⟩)), (fun u _ => u = .int .i64 (t : Int)), (fun u _ => u = .int .i64 (jx : Int)), (fun u _ => u = .pointer (some ⟨gv, ov + jx, none⟩)), (fun u _ => u = .int .i64 v9), (fun u _ => u = .agg #[.int .i64 (m9 / 18446744073709551616), .int .u64 (m9 % 18446744073709551616)]), (fun u _ => u = .tuple #[.agg #[.int .i64 ((s9 + m9) / 18446744073709551616), .int .u64 ((s9 + m9) % 18446744073709551616)], .int .i64 0]), (fun u _ => u = .tuple #[.agg #[.int .i64 ((s9 + m9) / 18446744073709551616), .int .u64 ((s9 + m9) % 18446744073709551616)], .int .i64 0]), (fun u _ => u = .agg #[.int .i64 ((s9 + m9) / 18446744073709551616), .int .u64 ((s9 + m9) % 18446744073709551616)]), (fun u _ => u = .int .i64 0), (fun _ _ => True)] [some 100, some 101, some 102, some 103, some 104, some 105, some 106, some 107, some 108, some 109, some 110, some 111, some 112, some 113, some 114, some 115, some 116, some 117, some 118, some 119, some 120, some 121, some 122, some 123, some 124, some 125, some 126, some 127, some 128, some 129, some 130, some 131, some 99, some 132, some 133, none] (by kernel_rfl) (by kernel_rfl) rfl (by kernel_rfl) (by kernel_rfl) (by decide) (by decide) (fun h1 h2 => h1.trans h2) (Kept.of_below (Below.drew (Below.refl _ _))) ⟨fun _ => G3.out.drew, fun h => absurd h (by decide)⟩ (BorneAll.at (.cons (borne_eq _) (.cons (borne_eq _) (.cons (borne_eq _) (.cons (borne_eq _) (.cons (borne_eq _) (.cons (borne_eq _) (.cons (borne_eq _) (.cons (borne_eq _) (.cons (borne_eq _) (.cons (borne_eq _) (.cons (borne_eq _) (.cons (borne_eq _) (.cons (borne_eq _) (.cons (borne_eq _) (.cons (borne_eq _) (.cons (borne_eq _) (.cons (borne_eq _) (.cons (borne_eq _) (.cons (borne_eq _) (.cons (borne_eq _) (.cons (borne_eq _) (.cons (borne_eq _) (.cons (borne_eq _) (.cons (borne_eq _) (.cons (borne_eq _) (.cons (borne_eq _) (.cons (borne_eq _) (.cons (borne_eq _) (.cons (borne_eq _) (.cons (borne_eq _) (.cons (borne_eq _) (.cons (borne_eq _) (.cons (borne_eq _) (.cons (borne_eq _) (.cons (borne_eq _) (.cons (fun _ _ _ _ _ => trivial) .nil))))))))))))))))))))))))))))))))))))) (fun vs b hvl hvb => ?_)
           obtain ⟨x0, x1, x2, x3, x4, x5, x6, x7, x8, x9, x10, x11, x12, x13, x14, x15, x16, x17, x18, x19, x20, x21, x22, x23, x24, x25, x26, x27, x28, x29, x30, x31, x32, x33, x34, x35, rfl⟩ : ∃ x0 x1 x2 x3 x4 x5 x6 x7 x8 x9 x10 x11 x12 x13 x14 x15 x16 x17 x18 x19 x20 x21 x22 x23 x24 x25 x26 x27 x28 x29 x30 x31 x32 x33 x34 x35, vs = [x0, x1, x2, x3, x4, x5, x6, x7, x8, x9, x10, x11, x12, x13, x14, x15, x16, x17, x18, x19, x20, x21, x22, x23, x24, x25, x26, x27, x28, x29, x30, x31, x32, x33, x34, x35] := lw36 hvl
           clear hvl
           simp only [putAll, Act.put, List.setIfInBounds_toArray, List.set_cons_zero, List.set_cons_succ] at hvb
           subst hvb
           refine ⟨(.snoc (.snoc (.snoc (.snoc (.snoc (.snoc (.snoc (.snoc (.snoc (.snoc (.snoc (.snoc (.snoc (.snoc (.snoc (.snoc (.snoc (.snoc (.snoc (.snoc (.snoc (.snoc (.snoc (.snoc (.snoc (.snoc (.snoc (.snoc (.snoc (.snoc (.snoc (.snoc (.snoc (.snoc (.snoc (.snoc .zero (InvObIn.intro (d := (some 100)) (r := fun u _ => u = .agg #[.int .i64 (s9 / 18446744073709551616), .int .u64 (s9 % 18446744073709551616)]) 0 0 rfl rfl rfl (by kernel_rfl) (by kernel_rfl) rfl ?io19x0)) (InvObIn.intro (d := (some 101)) (r := fun u _ => u = .pointer (some ⟨w.heap.size, 1, none⟩)) 0 0 rfl rfl rfl (by kernel_rfl) (by kernel_rfl) rfl ?io19x1)) (InvObIn.intro (d := (some 102)) (r := fun u _ => u = .slice (some ⟨gy, oy, none⟩) ys.length d) 0 0 rfl rfl rfl (by kernel_rfl) (by kernel_rfl) rfl ?io19x2)) (InvObIn.intro (d := (some 103)) (r := fun u _ => u = .int .i64 (one : Int)) 0 0 rfl rfl rfl (by kernel_rfl) (by kernel_rfl) rfl ?io19x3)) (InvObIn.intro (d := (some 104)) (r := fun u _ => u = .int .i64 (C : Int)) 0 0 rfl rfl rfl (by kernel_rfl) (by kernel_rfl) rfl ?io19x4)) (InvObIn.intro (d := (some 105)) (r := fun u _ => u = .int .i64 (oc : Int)) 0 0 rfl rfl rfl (by kernel_rfl) (by kernel_rfl) rfl ?io19x5)) (InvObIn.intro (d := (some 106)) (r := fun u _ => u = .int .i64 (k : Int)) 0 0 rfl rfl rfl (by kernel_rfl) (by kernel_rfl) rfl ?io19x6)) (InvObIn.intro (d := (some 107)) (r := fun u _ => u = .int .i64 (ok9 : Int)) 0 0 rfl rfl rfl (by kernel_rfl) (by kernel_rfl) rfl ?io19x7)) (InvObIn.intro (d := (some 108)) (r := fun u _ => u = .int .i64 (M : Int)) 0 0 rfl rfl rfl (by kernel_rfl) (by kernel_rfl) rfl ?io19x8)) (InvObIn.intro (d := (some 109)) (r := fun u _ => u = .int .i64 (im : Int)) 0 0 rfl rfl rfl (by kernel_rfl) (by kernel_rfl) rfl ?io19x9)) (InvObIn.intro (d := (some 110)) (r := fun u _ => u = .pointer (some ⟨Y, 2, none⟩)) 0 0 rfl rfl rfl (by kernel_rfl) (by kernel_rfl) rfl ?io19x10)) (InvObIn.intro (d := (some 111)) (r := fun u _ => u = .int .i64 (pz : Int)) 0 0 rfl rfl rfl (by kernel_rfl) (by kernel_rfl) rfl ?io19x11)) (InvObIn.intro (d := (some 112)) (r := fun u _ => u = .int .i64 (ix : Int)) 0 0 rfl rfl rfl (by kernel_rfl) (by kernel_rfl) rfl ?io19x12)) (InvObIn.intro (d := (some 113)) (r := fun u _ => u = .pointer (some ⟨gy, oy + ix, none⟩)) 0 0 rfl rfl rfl (by kernel_rfl) (by kernel_rfl) rfl ?io19x13)) (InvObIn.intro (d := (some 114)) (r := fun u _ => u = .int .i64 y9) 0 0 rfl rfl rfl (by kernel_rfl) (by kernel_rfl) rfl ?io19x14)) (InvObIn.intro (d := (some 115)) (r := fun u _ => u = .pointer (some ⟨w.heap.size + 1, 1, none⟩)) 0 0 rfl rfl rfl (by kernel_rfl) (by kernel_rfl) rfl ?io19x15)) (InvObIn.intro (d := (some 116)) (r := fun u _ => u = .slice (some ⟨gv, ov, none⟩) vs.length dw) 0 0 rfl rfl rfl (by kernel_rfl) (by kernel_rfl) rfl ?io19x16)) (InvObIn.intro (d := (some 117)) (r := fun u _ => u = .int .i64 (out : Int)) 0 0 rfl rfl rfl (by kernel_rfl) (by kernel_rfl) rfl ?io19x17)) (InvObIn.intro (d := (some 118)) (r := fun u _ => u = .int .i64 (C : Int)) 0 0 rfl rfl rfl (by kernel_rfl) (by kernel_rfl) rfl ?io19x18)) (InvObIn.intro (d := (some 119)) (r := fun u _ => u = .int .i64 (uc : Int)) 0 0 rfl rfl rfl (by kernel_rfl) (by kernel_rfl) rfl ?io19x19)) (InvObIn.intro (d := (some 120)) (r := fun u _ => u = .int .i64 (k : Int)) 0 0 rfl rfl rfl (by kernel_rfl) (by kernel_rfl) rfl ?io19x20)) (InvObIn.intro (d := (some 121)) (r := fun u _ => u = .int .i64 (uk : Int)) 0 0 rfl rfl rfl (by kernel_rfl) (by kernel_rfl) rfl ?io19x21)) (InvObIn.intro (d := (some 122)) (r := fun u _ => u = .agg #[.slice (some ⟨b0, o0 + 2, none⟩) wv.L.length cl, .slice (some ⟨b1, o1 + 2, none⟩) wv.K.length ck, .slice aO wv.O.length cO, .slice aQ Q.length cQ, .slice aS wv.S.length cS, .slice aP wv.P.length cP, .slice aD wv.D.length cD]) 0 0 rfl rfl rfl (by kernel_rfl) (by kernel_rfl) rfl ?io19x22)) (InvObIn.intro (d := (some 123)) (r := fun u _ => u = .int .i64 (T : Int)) 0 0 rfl rfl rfl (by kernel_rfl) (by kernel_rfl) rfl ?io19x23)) (InvObIn.intro (d := (some 124)) (r := fun u _ => u = .int .i64 (jt : Int)) 0 0 rfl rfl rfl (by kernel_rfl) (by kernel_rfl) rfl ?io19x24)) (InvObIn.intro (d := (some 125)) (r := fun u _ => u = .pointer (some ⟨Y, 1, none⟩)) 0 0 rfl rfl rfl (by kernel_rfl) (by kernel_rfl) rfl ?io19x25)) (InvObIn.intro (d := (some 126)) (r := fun u _ => u = .int .i64 (t : Int)) 0 0 rfl rfl rfl (by kernel_rfl) (by kernel_rfl) rfl ?io19x26)) (InvObIn.intro (d := (some 127)) (r := fun u _ => u = .int .i64 (jx : Int)) 0 0 rfl rfl rfl (by kernel_rfl) (by kernel_rfl) rfl ?io19x27)) (InvObIn.intro (d := (some 128)) (r := fun u _ => u = .pointer (some ⟨gv, ov + jx, none⟩)) 0 0 rfl rfl rfl (by kernel_rfl) (by kernel_rfl) rfl ?io19x28)) (InvObIn.intro (d := (some 129)) (r := fun u _ => u = .int .i64 v9) 0 0 rfl rfl rfl (by kernel_rfl) (by kernel_rfl) rfl ?io19x29)) (InvObIn.intro (d := (some 130)) (r := fun u _ => u = .agg #[.int .i64 (m9 / 18446744073709551616), .int .u64 (m9 % 18446744073709551616)]) 0 0 rfl rfl rfl (by kernel_rfl) (by kernel_rfl) rfl ?io19x30)) (InvObIn.intro (d := (some 131)) (r := fun u _ => u = .tuple #[.agg #[.int .i64 ((s9 + m9) / 18446744073709551616), .int .u64 ((s9 + m9) % 18446744073709551616)], .int .i64 0]) 0 0 rfl rfl rfl (by kernel_rfl) (by kernel_rfl) rfl ?io19x31)) (InvObIn.intro (d := (some 99)) (r := fun u _ => u = .tuple #[.agg #[.int .i64 ((s9 + m9) / 18446744073709551616), .int .u64 ((s9 + m9) % 18446744073709551616)], .int .i64 0]) 0 0 rfl rfl rfl (by kernel_rfl) (by kernel_rfl) rfl ?io19x32)) (InvObIn.intro (d := (some 132)) (r := fun u _ => u = .agg #[.int .i64 ((s9 + m9) / 18446744073709551616), .int .u64 ((s9 + m9) % 18446744073709551616)]) 0 0 rfl rfl rfl (by kernel_rfl) (by kernel_rfl) rfl ?io19x33)) (InvObIn.intro (d := (some 133)) (r := fun u _ => u = .int .i64 0) 0 1 rfl rfl rfl (by kernel_rfl) (by kernel_rfl) rfl ?io19x34)) (InvObIn.put (d := none) (r := fun _ _ => True) 0 rfl rfl rfl (by kernel_rfl) (by kernel_rfl) rfl ?io19x35)), ?iend19⟩
           case io19x0 =>
            intro k1 w1 hk0 hk1 hb1 hS hd KK hK
            have hF := hS.1 (by omega)
            have k0_ := hF.c 10 0 rfl rfl
            have k1_ := hF.c 10 1 rfl rfl
            go_simp
            exact hK.out _ _ (Kept.refl _ _) hS rfl
           case io19x1 =>
            intro k1 w1 hk0 hk1 hb1 hS hd KK hK
            go_simp
            exact hK.out _ _ (Kept.refl _ _) hS rfl
           case io19x2 =>
            intro k1 w1 hk0 hk1 hb1 hS hd KK hK
            obtain rfl := hd 1 (by kernel_rfl)
            have hF := hS.1 (by omega)
            have k1_ := hF.c 0 1 rfl rfl
            go_simp
            exact hK.out _ _ (Kept.refl _ _) hS rfl
           case io19x3 =>
            intro k1 w1 hk0 hk1 hb1 hS hd KK hK
            have hF := hS.1 (by omega)
            have k0_ := hF.c 8 0 rfl rfl
            go_simp
            exact hK.out _ _ (Kept.refl _ _) hS rfl
           case io19x4 =>
            intro k1 w1 hk0 hk1 hb1 hS hd KK hK
            have hF := hS.1 (by omega)
            have k0_ := hF.c 6 0 rfl rfl
            go_simp
            exact hK.out _ _ (Kept.refl _ _) hS rfl
           case io19x5 =>
            intro k1 w1 hk0 hk1 hb1 hS hd KK hK
            obtain rfl := hd 3 (by kernel_rfl)
            obtain rfl := hd 4 (by kernel_rfl)
            have dx := E0.out
            go_simp
            exact hK.out _ _ (Kept.refl _ _) hS rfl
           case io19x6 =>
            intro k1 w1 hk0 hk1 hb1 hS hd KK hK
            go_simp
            exact hK.out _ _ (Kept.refl _ _) hS rfl
           case io19x7 =>
            intro k1 w1 hk0 hk1 hb1 hS hd KK hK
            obtain rfl := hd 5 (by kernel_rfl)
            obtain rfl := hd 6 (by kernel_rfl)
            have dx := E1.out
            go_simp
            exact hK.out _ _ (Kept.refl _ _) hS rfl
           case io19x8 =>
            intro k1 w1 hk0 hk1 hb1 hS hd KK hK
            have hF := hS.1 (by omega)
            have k0_ := hF.c 7 0 rfl rfl
            go_simp
            exact hK.out _ _ (Kept.refl _ _) hS rfl
           case io19x9 =>
            intro k1 w1 hk0 hk1 hb1 hS hd KK hK
            obtain rfl := hd 7 (by kernel_rfl)
            obtain rfl := hd 8 (by kernel_rfl)
            have dx := E2.out
            go_simp
            exact hK.out _ _ (Kept.refl _ _) hS rfl
           case io19x10 =>
            intro k1 w1 hk0 hk1 hb1 hS hd KK hK
            go_simp
            exact hK.out _ _ (Kept.refl _ _) hS rfl
           case io19x11 =>
            intro k1 w1 hk0 hk1 hb1 hS hd KK hK
            obtain rfl := hd 10 (by kernel_rfl)
            have hF := hS.1 (by omega)
            have k2_ := hF.c 14 2 rfl rfl
            go_simp
            exact hK.out _ _ (Kept.refl _ _) hS rfl
           case io19x12 =>
            intro k1 w1 hk0 hk1 hb1 hS hd KK hK
            obtain rfl := hd 9 (by kernel_rfl)
            obtain rfl := hd 11 (by kernel_rfl)
            have dx := E3.out
            go_simp
            exact hK.out _ _ (Kept.refl _ _) hS rfl
           case io19x13 =>
            intro k1 w1 hk0 hk1 hb1 hS hd KK hK
            obtain rfl := hd 2 (by kernel_rfl)
            obtain rfl := hd 12 (by kernel_rfl)
            go_simp
            exact hK.out _ _ (Kept.refl _ _) hS rfl
           case io19x14 =>
            intro k1 w1 hk0 hk1 hb1 hS hd KK hK
            obtain rfl := hd 13 (by kernel_rfl)
            have hF := hS.1 (by omega)
            obtain ⟨b9, o9, he, _, hcx⟩ := (hF.l 1 rfl).cell ix HIX.out
            cases he
            rw [HY9.out] at hcx
            go_simp
            exact hK.out _ _ (Kept.refl _ _) hS rfl
           case io19x15 =>
            intro k1 w1 hk0 hk1 hb1 hS hd KK hK
            go_simp
            exact hK.out _ _ (Kept.refl _ _) hS rfl
           case io19x16 =>
            intro k1 w1 hk0 hk1 hb1 hS hd KK hK
            obtain rfl := hd 15 (by kernel_rfl)
            have hF := hS.1 (by omega)
            have k1_ := hF.c 1 1 rfl rfl
            go_simp
            exact hK.out _ _ (Kept.refl _ _) hS rfl
           case io19x17 =>
            intro k1 w1 hk0 hk1 hb1 hS hd KK hK
            have hF := hS.1 (by omega)
            have k0_ := hF.c 9 0 rfl rfl
            go_simp
            exact hK.out _ _ (Kept.refl _ _) hS rfl
           case io19x18 =>
            intro k1 w1 hk0 hk1 hb1 hS hd KK hK
            have hF := hS.1 (by omega)
            have k0_ := hF.c 6 0 rfl rfl
            go_simp
            exact hK.out _ _ (Kept.refl _ _) hS rfl
           case io19x19 =>
            intro k1 w1 hk0 hk1 hb1 hS hd KK hK
            obtain rfl := hd 17 (by kernel_rfl)
            obtain rfl := hd 18 (by kernel_rfl)
            have dx := E4.out
            go_simp
            exact hK.out _ _ (Kept.refl _ _) hS rfl
           case io19x20 =>
            intro k1 w1 hk0 hk1 hb1 hS hd KK hK
            go_simp
            exact hK.out _ _ (Kept.refl _ _) hS rfl
           case io19x21 =>
            intro k1 w1 hk0 hk1 hb1 hS hd KK hK
            obtain rfl := hd 19 (by kernel_rfl)
            obtain rfl := hd 20 (by kernel_rfl)
            have dx := E5.out
            go_simp
            exact hK.out _ _ (Kept.refl _ _) hS rfl
           case io19x22 =>
            intro k1 w1 hk0 hk1 hb1 hS hd KK hK
            have hF := hS.1 (by omega)
            have k0_ := hF.c 4 0 rfl rfl
            have k1_ := hF.c 4 1 rfl rfl
            have k2_ := hF.c 4 2 rfl rfl
            have k3_ := hF.c 4 3 rfl rfl
            have k4_ := hF.c 4 4 rfl rfl
            have k5_ := hF.c 4 5 rfl rfl
            have k6_ := hF.c 4 6 rfl rfl
            go_simp
            exact hK.out _ _ (Kept.refl _ _) hS rfl
           case io19x23 =>
            intro k1 w1 hk0 hk1 hb1 hS hd KK hK
            obtain rfl := hd 22 (by kernel_rfl)
            have hF := hS.1 (by omega)
            go_simp
            (repeat gi_step)
            refine ⟨trivial, ?_⟩
            refine ((CallsIn.inRound (D + 1) (callsIn_wide.2 (HTP.out w1 (hF.lw 9 rfl)) : CallsIn Fence.wide 17 _ _ _ _ _))).mono ?_
            rintro e w2 ⟨rfl, hb⟩
            (try gi_wp2_with fail)
            exact hK.out _ _ (Kept.of_below hb) ⟨fun h => (hS.1 h).next hb, fun h => (hS.2 h).next hb⟩ rfl
           case io19x24 =>
            intro k1 w1 hk0 hk1 hb1 hS hd KK hK
            obtain rfl := hd 21 (by kernel_rfl)
            obtain rfl := hd 23 (by kernel_rfl)
            have dx := E6.out
            go_simp
            exact hK.out _ _ (Kept.refl _ _) hS rfl
           case io19x25 =>
            intro k1 w1 hk0 hk1 hb1 hS hd KK hK
            go_simp
            exact hK.out _ _ (Kept.refl _ _) hS rfl
           case io19x26 =>
            intro k1 w1 hk0 hk1 hb1 hS hd KK hK
            obtain rfl := hd 25 (by kernel_rfl)
            have hF := hS.1 (by omega)
            have k1_ := hF.c 14 1 rfl rfl
            go_simp
            exact hK.out _ _ (Kept.refl _ _) hS rfl
           case io19x27 =>
            intro k1 w1 hk0 hk1 hb1 hS hd KK hK
            obtain rfl := hd 24 (by kernel_rfl)
            obtain rfl := hd 26 (by kernel_rfl)
            have dx := E7.out
            go_simp
            exact hK.out _ _ (Kept.refl _ _) hS rfl
           case io19x28 =>
            intro k1 w1 hk0 hk1 hb1 hS hd KK hK
            obtain rfl := hd 16 (by kernel_rfl)
            obtain rfl := hd 27 (by kernel_rfl)
            go_simp
            exact hK.out _ _ (Kept.refl _ _) hS rfl
           case io19x29 =>
            intro k1 w1 hk0 hk1 hb1 hS hd KK hK
            obtain rfl := hd 28 (by kernel_rfl)
            have hF := hS.1 (by omega)
            obtain ⟨b9, o9, he, _, hcx⟩ := (hF.l 3 rfl).cell jx HJX.out
            cases he
            rw [HV9.out] at hcx
            go_simp
            exact hK.out _ _ (Kept.refl _ _) hS rfl
           case io19x30 =>
            intro k1 w1 hk0 hk1 hb1 hS hd KK hK
            obtain rfl := hd 14 (by kernel_rfl)
            obtain rfl := hd 23 (by kernel_rfl)
            obtain rfl := hd 29 (by kernel_rfl)
            go_simp
            (repeat gi_step)
            refine ⟨trivial, ?_⟩
            refine ((CallsIn.inRound (D + 1) (callsIn_wide.2 (HMUL.out w1) : CallsIn Fence.wide 17 _ _ _ _ _))).mono ?_
            rintro e w2 ⟨rfl, hb⟩
            (try gi_wp2_with fail)
            exact hK.out _ _ (Kept.of_below hb) ⟨fun h => (hS.1 h).next hb, fun h => (hS.2 h).next hb⟩ rfl
           case io19x31 =>
            intro k1 w1 hk0 hk1 hb1 hS hd KK hK
            obtain rfl := hd 0 (by kernel_rfl)
            obtain rfl := hd 30 (by kernel_rfl)
            go_simp
            (repeat gi_step)
            refine ⟨trivial, ?_⟩
            refine ((CallsIn.inRound (D + 1) (callsIn_wide.2 (HADD.out w1) : CallsIn Fence.wide 17 _ _ _ _ _))).mono ?_
            rintro e w2 ⟨rfl, hb⟩
            (try gi_wp2_with fail)
            exact hK.out _ _ (Kept.of_below hb) ⟨fun h => (hS.1 h).next hb, fun h => (hS.2 h).next hb⟩ rfl
           case io19x32 =>
            intro k1 w1 hk0 hk1 hb1 hS hd KK hK
            obtain rfl := hd 31 (by kernel_rfl)
            go_simp
            exact hK.out _ _ (Kept.refl _ _) hS rfl
           case io19x33 =>
            intro k1 w1 hk0 hk1 hb1 hS hd KK hK
            obtain rfl := hd 32 (by kernel_rfl)
            go_simp
            exact hK.out _ _ (Kept.refl _ _) hS rfl
           case io19x34 =>
            intro k1 w1 hk0 hk1 hb1 hS hd KK hK
            obtain rfl := hd 32 (by kernel_rfl)
            go_simp
            exact hK.out _ _ (Kept.refl _ _) hS rfl
           case io19x35 =>
            intro w1 hb1 hS hd KK hK
            obtain rfl := hd 0 (by kernel_rfl)
            obtain rfl := hd 1 (by kernel_rfl)
            obtain rfl := hd 2 (by kernel_rfl)
            obtain rfl := hd 3 (by kernel_rfl)
            obtain rfl := hd 4 (by kernel_rfl)
            obtain rfl := hd 5 (by kernel_rfl)
            obtain rfl := hd 6 (by kernel_rfl)
            obtain rfl := hd 7 (by kernel_rfl)
            obtain rfl := hd 8 (by kernel_rfl)
            obtain rfl := hd 9 (by kernel_rfl)
            obtain rfl := hd 10 (by kernel_rfl)
            obtain rfl := hd 11 (by kernel_rfl)
            obtain rfl := hd 12 (by kernel_rfl)
            obtain rfl := hd 13 (by kernel_rfl)
            obtain rfl := hd 14 (by kernel_rfl)
            obtain rfl := hd 15 (by kernel_rfl)
            obtain rfl := hd 16 (by kernel_rfl)
            obtain rfl := hd 17 (by kernel_rfl)
            obtain rfl := hd 18 (by kernel_rfl)
            obtain rfl := hd 19 (by kernel_rfl)
            obtain rfl := hd 20 (by kernel_rfl)
            obtain rfl := hd 21 (by kernel_rfl)
            obtain rfl := hd 22 (by kernel_rfl)
            obtain rfl := hd 23 (by kernel_rfl)
            obtain rfl := hd 24 (by kernel_rfl)
            obtain rfl := hd 25 (by kernel_rfl)
            obtain rfl := hd 26 (by kernel_rfl)
            obtain rfl := hd 27 (by kernel_rfl)
            obtain rfl := hd 28 (by kernel_rfl)
            obtain rfl := hd 29 (by kernel_rfl)
            obtain rfl := hd 30 (by kernel_rfl)
            obtain rfl := hd 31 (by kernel_rfl)
            obtain rfl := hd 32 (by kernel_rfl)
            obtain rfl := hd 33 (by kernel_rfl)
            have hF := hS.1 rfl
            have k0 := hF.c 10 0 rfl rfl
            have k1 := hF.c 10 1 rfl rfl
            have kf0 := hF.f 10 0 rfl rfl
            have kf1 := hF.f 10 1 rfl rfl
            go_simp
            exact hK.out undef _ ((Kept.of_grown (row := some Yb) (Go.Lib.grownBy_setCell (w1) Yb 0 (.int .i64 ((s9 + m9) / 18446744073709551616))) (fun e he => by injection he with he; have := HJ.out.bB _ (List.mem_of_getElem? (i := 10) rfl); omega)).trans (Kept.of_grown (row := some Yb) (Go.Lib.grownBy_setCell (w1.setCell ⟨Yb, 0, none⟩ (.int .i64 ((s9 + m9) / 18446744073709551616))) Yb 1 (.int .u64 ((s9 + m9) % 18446744073709551616))) (fun e he => by injection he with he; have := HJ.out.bB _ (List.mem_of_getElem? (i := 10) rfl); omega))) ⟨fun h => absurd h (by decide), fun _ => by have hp := hF.set 10 rfl (by simp) [.int .i64 ((s9 + m9) / 18446744073709551616), .int .u64 ((s9 + m9) % 18446744073709551616)] rfl; simp only [setL, Nat.reduceAdd, List.set_cons_zero, List.set_cons_succ] at hp; exact hp⟩ trivial
           case iend19 =>
            intro w1 hb1 hS hR
            obtain rfl := hR 0 (by decide)
            obtain rfl := hR 1 (by decide)
            obtain rfl := hR 2 (by decide)
            obtain rfl := hR 3 (by decide)
            obtain rfl := hR 4 (by decide)
            obtain rfl := hR 5 (by decide)
            obtain rfl := hR 6 (by decide)
            obtain rfl := hR 7 (by decide)
            obtain rfl := hR 8 (by decide)
            obtain rfl := hR 9 (by decide)
            obtain rfl := hR 10 (by decide)
            obtain rfl := hR 11 (by decide)
            obtain rfl := hR 12 (by decide)
            obtain rfl := hR 13 (by decide)
            obtain rfl := hR 14 (by decide)
            obtain rfl := hR 15 (by decide)
            obtain rfl := hR 16 (by decide)
            obtain rfl := hR 17 (by decide)
            obtain rfl := hR 18 (by decide)
            obtain rfl := hR 19 (by decide)
            obtain rfl := hR 20 (by decide)
            obtain rfl := hR 21 (by decide)
            obtain rfl := hR 22 (by decide)
            obtain rfl := hR 23 (by decide)
            obtain rfl := hR 24 (by decide)
            obtain rfl := hR 25 (by decide)
            obtain rfl := hR 26 (by decide)
            obtain rfl := hR 27 (by decide)
            obtain rfl := hR 28 (by decide)
            obtain rfl := hR 29 (by decide)
            obtain rfl := hR 30 (by decide)
            obtain rfl := hR 31 (by decide)
            obtain rfl := hR 32 (by decide)
            obtain rfl := hR 33 (by decide)
            obtain rfl := hR 34 (by decide)
            clear hR
            have G4 := Lib.hid (hS.2 rfl)
            have HK4 := Lib.hid (HK3.out.trans hb1)
            clear hS hb1 G3 HK3
            obtain ⟨V4, rfl⟩ : ∃ x : World, x = w1 := ⟨_, rfl⟩
            rw [← HCV.out] at G4
            (repeat gi_step)
            go_roundw
            case rel => exact ⟨k + 1, HLK.out, by go_num, HK4, G4⟩
            case measure => have := HLK.out; simp [intOf]; omega
          ·skip
           obtain rfl : C = k := by omega
           (repeat gi_step)
           dsimp only
           refine ⟨G3.out.m 0 rfl, ?_⟩
           have G5 := (G3.out.putM 0 rfl (.loop (R9 .ready none)) rfl).less (.cons_cons _ (.cons_cons _ (.cons_cons _ (.cons_cons _ (.cons_cons _ (.cons_cons _ (.cons_cons _ (.cons_cons _ (.cons_cons _ (.cons_cons _ (.cons_cons _ (.cons_cons _ (.cons_cons _ (.cons_cons _ (.cons _ .slnil))))))))))))))) (.refl _) (.refl _) (.refl _)
           simp only [List.set_cons_zero, List.set_cons_succ] at G5
           have hj := HJ.out
           have hks := HK3.out.1
           have hsz9 := (grownBy_putObj' wi (D + 1) (.loop (R9 .ready none))).size
           exact ⟨G5, hj.lS, by have h8 := hj.sz; omega, by have h9 := hj.bB; simp only [List.mem_cons, List.not_mem_nil, or_false, forall_eq_or_imp, forall_eq] at h9 ⊢; exact h9, hj.bO, by have h9 := hj.bM; simp only [List.mem_cons, forall_eq_or_imp] at h9 ⊢; exact h9⟩
       case hdone =>
        rintro V o9 ho ⟨o2, F18⟩
        have FY := Lib.hid ((F18.out.putM 0 rfl o9 ho).less (.refl _) (.refl _) (.refl _) (List.sublist_cons_self _ _))
        try simp only [List.set_cons_zero, List.set_cons_succ] at FY
        generalize V.putObj (D + 1) o9 = V3 at *
        clear F18 F16 hD
        have hgn := HGN.out
        skip
        have hgn := HGN.out
        have hgr : inR (GF n) := by rw [hgn]; exact sum_inR (tenB_iff.1 HK.out.tx).2.2 (tenB_iff.1 HK.out.tw).2.2 wv HCT.out M pl one out
        rw [← hgn] at FY
        have hsh := fun W => shifted_any _ _ fn W (by omega) (by omega) (WR_split hgr)
        rw [V_split, ← HWD.out n] at hsh
        obtain ⟨S9, hS9⟩ : ∃ z, GF n = z := ⟨_, rfl⟩
        rw [hS9] at FY hsh
        have HSH := Lib.hid hsh
        have HHG := Lib.hid hgr
        clear hgn hgr hsh hS9 HHG
        have c10_0 := FY.out.c 10 0 rfl rfl
        have c10_1 := FY.out.c 10 1 rfl rfl
        go_upto_region 22 with (first | (go_at_call 44; refine (HSH.out _).mono ?_; rintro e w21 ⟨he, hb⟩; unfold RetV at he; subst he; have FZ := Lib.hid (FY.out.next hb); clear hb FY c10_0 c10_1) | fail)
        obtain ⟨r, hr⟩ : ∃ z, WF n = z := ⟨_, rfl⟩
        rw [hr]
        have HR9 := Lib.hid hr
        clear hr
        cases hw : isW r with
        | true =>
         have hv1 : wordV r = r := by unfold wordV; rw [hw]; rfl
         have hv2 : wordE r = 0 := by unfold wordE; rw [hw]; rfl
         rw [hv1, hv2]
         have HW := Lib.hid hw
         have hgD := upto_get WF (n := n) hlt
         have hsD := upto_set WF hlt
         rw [HLD.out] at hgD hsD
         rw [HR9.out] at hsD
         have HSD := Lib.hid hsD
         obtain ⟨rk, rf⟩ := FZ.out.rc 3 n rfl hgD
         clear hv1 hv2 hw hgD hsD
         have c5_0 := FZ.out.c 5 0 rfl rfl
         have c5_1 := FZ.out.c 5 1 rfl rfl
         go_upto_region 24 with fail
         go_wp2
         have G4 := Lib.hid (FZ.out.put 3 n rfl (.int .i64 r))
         simp only [List.set_cons_zero, List.set_cons_succ] at G4
         have G5 := G4.out.less (B' := [(w.heap.size, [.slice (some ⟨b0, o0, none⟩) xs.length c, .slice b ys.length d]), (w.heap.size + 1, [.slice (some ⟨b1, o1, none⟩) ws.length c2, .slice b2 vs.length dw]), (w.heap.size + 1 + 1, [.slice aQ Q.length cQ, .slice aS wv.S.length cS, .slice aP wv.P.length cP, .slice aD wv.D.length cD]), (w.heap.size + 1 + 1 + 1, [.slice none 0 0, .slice none 0 0]), (Y7, [.slice (some ⟨b0, o0 + 2, none⟩) wv.L.length cl, .slice (some ⟨b1, o1 + 2, none⟩) wv.K.length ck, .slice aO wv.O.length cO, .slice aQ Q.length cQ, .slice aS wv.S.length cS, .slice aP wv.P.length cP, .slice aD wv.D.length cD]), (Q9, [.slice as_ S.length cs_, .slice (some ⟨gd, 0, none⟩) NN dd]), (b7, [.int .i64 (C : Int)]), (b8, [.int .i64 (M : Int)])]) (.cons_cons _ (.cons_cons _ (.cons_cons _ (.cons_cons _ (.cons_cons _ (.cons_cons _ (.cons_cons _ (.cons_cons _ (List.nil_sublist _))))))))) (.refl _) (.cons_cons _ (.cons_cons _ (.cons_cons _ (.cons_cons _ (List.nil_sublist _))))) (.refl _)
         rw [HSD.out] at G5
         have HAW2 : Hid (∀ j, j < n + 1 → isW (WF j) = true) := Lib.hid (fun j hj => by
          by_cases h : j < n
          ·exact HALLW.out j h
          ·obtain rfl : j = n := by omega
           rw [HR9.out]; exact HW.out)
         refine ⟨⟨⟨n + 1, D :: Ds, by omega, by first | rfl | (show Value.int .i64 _ = _; go_num), rfl, HAW2, Lib.hid G5⟩, rfl⟩, ?_⟩
         show NN - _ < NN - _
         simp [slotsOf, intOf]
         omega
        | false =>
         have hv1 : wordV r = 0 := by unfold wordV; rw [hw]; rfl
         have hv2 : wordE r = 3 := by unfold wordE; rw [hw]; rfl
         rw [hv1, hv2]
         have hz3 : Z = 3 := by
          rw [HZZ.out, if_neg]
          intro hq
          have := List.all_eq_true.1 hq n (List.mem_range.2 hlt)
          rw [HR9.out, hw] at this
          cases this
         clear hv1 hv2 hw
         have c3_0 := FZ.out.c 3 0 rfl rfl
         have c3_1 := FZ.out.c 3 1 rfl rfl
         have cf3_0 := FZ.out.f 3 0 rfl rfl
         have cf3_1 := FZ.out.f 3 1 rfl rfl
         go_wp2
         have FX := FZ.out.set 3 rfl (by simp) [.slice none 0 0, .slice none 0 0] rfl
         simp only [setL, Nat.reduceAdd, List.set_cons_zero, List.set_cons_succ] at FX
         show LeavesInM Fence.wide 20 Tryz.prog Tryz.f10 _ (RetTF _ _ _ _) (mkD (D :: Ds)) .returning _
         refine leaves_marks (by simp) _ _ FX (fun w9 F10 => ?_)
         have y0 := F10.c 3 0 rfl rfl
         have y1 := F10.c 3 1 rfl rfl
         refine ⟨.tuple #[.agg #[.slice none 0 0, .slice none 0 0], .int .i64 3], ?_, ?_⟩
         ·rw [results_ctZ rfl]
          go_simp
         ·skip
          rw [hz3, zL_ne _ (by decide), zL_ne _ (by decide)]
          exact retTF_none (F10.less (.refl _) (.refl _) (List.nil_sublist _) (.refl _))
 ·skip
  obtain rfl : n = NN := by omega
  have hz0 : Z = 0 := by
   rw [HZZ.out, if_pos]
   exact List.all_eq_true.2 fun j hj => HALLW.out j (List.mem_range.1 hj)
  have c5_0 := F12.out.c 5 0 rfl rfl
  have c5_1 := F12.out.c 5 1 rfl rfl
  have e3_0 := F12.out.c 3 0 rfl rfl
  have e3_1 := F12.out.c 3 1 rfl rfl
  have ef3_0 := F12.out.f 3 0 rfl rfl
  have ef3_1 := F12.out.f 3 1 rfl rfl
  go_wp2
  have F13 := F12.out
  rw [upto_all] at F13
  have F14 := Lib.hid F13
  have FX := F14.out.set 3 rfl (by simp) [.slice as_ S.length cs_, .slice (some ⟨gd, 0, none⟩) n dd] rfl
  simp only [setL, Nat.reduceAdd, List.set_cons_zero, List.set_cons_succ] at FX
  show LeavesInM Fence.wide 20 Tryz.prog Tryz.f10 _ (RetTF _ _ _ _) (mkD Ds) .returning _
  refine leaves_marks (by simp) _ _ FX (fun w9 F10 => ?_)
  have y0 := F10.c 3 0 rfl rfl
  have y1 := F10.c 3 1 rfl rfl
  refine ⟨.tuple #[.agg #[.slice as_ S.length cs_, .slice (some ⟨gd, 0, none⟩) n dd], .int .i64 0], ?_, ?_⟩
  ·rw [results_ctZ rfl]
   go_simp
  ·skip
   rw [hz0, zL_0, zL_0]
   refine ⟨as_, cs_, some ⟨gd, 0, none⟩, dd, by simp, ?_⟩
   have h9 := (F10.rows).less (.refl _) (.refl _) (.cons _ (.cons _ (.refl _))) (.refl _)
   simp only [List.length_map, List.length_range] at h9 ⊢
   exact h9
theorem conv_any (a b a2 b2 : Option Addr) (c d c2 dw : Nat) (xs ys ws vs : List Int) (aQ aS aP aD : Option Addr) (cQ cS cP cD : Nat) (Q : List Int) (wv : WinV) (f : Int) (w : World) (h : Ints .i64 w w.heap.size a xs) (h2 : Ints .i64 w w.heap.size b ys) (k : Ints .i64 w w.heap.size a2 ws) (k2 : Ints .i64 w w.heap.size b2 vs) (hQ : Ints .i64 w w.heap.size aQ Q) (hS : Ints .i64 w w.heap.size aS wv.S) (hP : Ints .i64 w w.heap.size aP wv.P) (hD : Ints .i64 w w.heap.size aD wv.D) (hL : wv.L = xs.drop 2) (hK : wv.K = ws.drop 2) (hc1 : xs.length ≤ c) (hc2 : c ≤ 9223372036854775807) (hc3 : ws.length ≤ c2) (hc4 : c2 ≤ 9223372036854775807) :
  Calls Tryz.prog 10 #[.agg #[.slice a xs.length c, .slice b ys.length d], .agg #[.slice a2 ws.length c2, .slice b2 vs.length dw], .agg #[.slice aQ Q.length cQ, .slice aS wv.S.length cS, .slice aP wv.P.length cP, .slice aD wv.D.length cD], .int .i64 f] w (RetTF w (zL (cvZ xs ys ws vs Q wv f) (coS xs ws wv)) (zL (cvZ xs ys ws vs Q wv f) ((List.range (cvN xs ws wv)).map (cvW xs ys ws vs wv f.toNat))) (cvZ xs ys ws vs Q wv f)) := by
 cases hz : (tenB xs ys && tenB ws vs) with
 | false =>
  have e : cvZ xs ys ws vs Q wv f = 1 := by unfold cvZ formZ; rw [hz]; simp
  rw [e, zL_ne _ (by decide), zL_ne _ (by decide)]
  exact conv_all a b a2 b2 c d c2 dw xs ys ws vs aQ aS aP aD cQ cS cP cD Q wv f w h h2 k k2 hQ hS hP hD hz
 | true =>
  cases hz2 : (decide (8 ≤ f) && decide (f ≤ 32)) with
  | false =>
   have e : cvZ xs ys ws vs Q wv f = 1 := by unfold cvZ formZ; rw [hz, hz2]; simp
   rw [e, zL_ne _ (by decide), zL_ne _ (by decide)]
   exact conv_f a b a2 b2 c d c2 dw xs ys ws vs aQ aS aP aD cQ cS cP cD Q wv f w h h2 k k2 hQ hS hP hD hz hz2
  | true =>
   cases hz3 : numB false Q wv.S wv.P wv.D with
   | false =>
    have e : cvZ xs ys ws vs Q wv f = 1 := by unfold cvZ formZ; rw [hz, hz2, hz3]; simp
    rw [e, zL_ne _ (by decide), zL_ne _ (by decide)]
    exact conv_num a b a2 b2 c d c2 dw xs ys ws vs aQ aS aP aD cQ cS cP cD Q wv f w h h2 k k2 hQ hS hP hD hz hz2 hz3
   | true =>
    have hf : formZ xs ys ws vs Q wv f = true := by unfold formZ; rw [hz, hz2, hz3]; rfl
    by_cases hz4 : coutZ xs ws wv = 0
    ·exact conv_go a b a2 b2 c d c2 dw xs ys ws vs aQ aS aP aD cQ cS cP cD Q wv f w h h2 k k2 hQ hS hP hD hL hK hc1 hc2 hc3 hc4 hf hz4
    ·have e : cvZ xs ys ws vs Q wv f = coutZ xs ws wv := by unfold cvZ; rw [if_pos hf, if_neg hz4]
     rw [e, zL_ne _ hz4, zL_ne _ hz4]
     exact conv_shape a b a2 b2 c d c2 dw xs ys ws vs aQ aS aP aD cQ cS cP cD Q wv f w h h2 k k2 hQ hS hP hD hL hK hc1 hc2 hc3 hc4 hz hz2 hz3 hz4
end Go.Proofs.YtadlnmckcnfacaaGreat
