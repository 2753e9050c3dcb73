/- Walks: pool.Max. -/
import Derived.Test.YtmjcpgfekpedkaaPoP
import Derived.Test.YtmjcpgfekpedkaaPoM
import Derived.Test.YtmjcpgfekpedkaaInvIn
set_option linter.unusedVariables false
set_option linter.unusedSimpArgs false
namespace Go.Proofs.Ytmjcpgfekpedkaa
open Go.RowKit Go.Rt
theorem lw15 {α : Type} {l : List α} (h : l.length = 15) : ∃ x0 x1 x2 x3 x4 x5 x6 x7 x8 x9 x10 x11 x12 x13 x14, l = [x0, x1, x2, x3, x4, x5, x6, x7, x8, x9, x10, x11, x12, x13, x14] := by
 match l, h with
 | [x0, x1, x2, x3, x4, x5, x6, x7, x8, x9, x10, x11, x12, x13, x14], _ => exact ⟨x0, x1, x2, x3, x4, x5, x6, x7, x8, x9, x10, x11, x12, x13, x14, rfl⟩
theorem lw33 {α : Type} {l0 : List α} (h0 : l0.length = 33) : ∃ x0 x1 x2 x3 x4 x5 x6 x7 x8 x9 x10 x11 x12 x13 x14 x15 x16 x17 x18 x19 x20 x21 x22 x23 x24 x25 x26 x27 x28 x29 x30 x31 x32, l0 = [x0, x1, x2, x3, x4, x5, x6, x7, x8, x9, x10, x11, x12, x13, x14, x15, x16, x17, x18, x19, x20, x21, x22, x23, x24, x25, x26, x27, x28, x29, x30, x31, x32] := by
 obtain ⟨x0, l1, rfl, h1⟩ := lwC h0
 obtain ⟨x1, l2, rfl, h2⟩ := lwC h1
 obtain ⟨x2, l3, rfl, h3⟩ := lwC h2
 obtain ⟨x3, l4, rfl, h4⟩ := lwC h3
 obtain ⟨x4, l5, rfl, h5⟩ := lwC h4
 obtain ⟨x5, l6, rfl, h6⟩ := lwC h5
 obtain ⟨x6, l7, rfl, h7⟩ := lwC h6
 obtain ⟨x7, l8, rfl, h8⟩ := lwC h7
 obtain ⟨x8, l9, rfl, h9⟩ := lwC h8
 obtain ⟨x9, l10, rfl, h10⟩ := lwC h9
 obtain ⟨x10, l11, rfl, h11⟩ := lwC h10
 obtain ⟨x11, l12, rfl, h12⟩ := lwC h11
 obtain ⟨x12, l13, rfl, h13⟩ := lwC h12
 obtain ⟨x13, l14, rfl, h14⟩ := lwC h13
 obtain ⟨x14, l15, rfl, h15⟩ := lwC h14
 obtain ⟨x15, l16, rfl, h16⟩ := lwC h15
 obtain ⟨x16, l17, rfl, h17⟩ := lwC h16
 obtain ⟨x17, l18, rfl, h18⟩ := lwC h17
 obtain ⟨x18, l19, rfl, h19⟩ := lwC h18
 obtain ⟨x19, l20, rfl, h20⟩ := lwC h19
 obtain ⟨x20, l21, rfl, h21⟩ := lwC h20
 obtain ⟨x21, l22, rfl, h22⟩ := lwC h21
 obtain ⟨x22, l23, rfl, h23⟩ := lwC h22
 obtain ⟨x23, l24, rfl, h24⟩ := lwC h23
 obtain ⟨x24, l25, rfl, h25⟩ := lwC h24
 obtain ⟨x25, l26, rfl, h26⟩ := lwC h25
 obtain ⟨x26, l27, rfl, h27⟩ := lwC h26
 obtain ⟨x27, l28, rfl, h28⟩ := lwC h27
 obtain ⟨x28, l29, rfl, h29⟩ := lwC h28
 obtain ⟨x29, l30, rfl, h30⟩ := lwC h29
 obtain ⟨x30, l31, rfl, h31⟩ := lwC h30
 obtain ⟨x31, l32, rfl, h32⟩ := lwC h31
 obtain ⟨x32, l33, rfl, h33⟩ := lwC h32
 obtain rfl := List.length_eq_zero_iff.1 h33
 exact ⟨x0, x1, x2, x3, x4, x5, x6, x7, x8, x9, x10, x11, x12, x13, x14, x15, x16, x17, x18, x19, x20, x21, x22, x23, x24, x25, x26, x27, x28, x29, x30, x31, x32, rfl⟩
attribute [local go_sem] Oper.semAt_some
/-- A tensor, a list and a code handed back. -/
def RetPX (w : World) (sh ys ps : List Int) (z : Int) (e : Ending) (w' : World) : Prop :=
 ∃ a c b d p q, e = .returned (.tuple #[.agg #[.slice a sh.length c, .slice b ys.length d], .slice p ps.length q, .int .i64 z]) ∧ Fr w.heap.size w w' [] [] [⟨3, .slice a sh.length c, sh.length, sh.map (Value.int .i64)⟩, ⟨2, .slice b ys.length d, ys.length, ys.map (Value.int .i64)⟩, ⟨3, .slice p ps.length q, ps.length, ps.map (Value.int .i64)⟩] []
theorem retNew_frP {w w' : World} {xs : List Int} {n : Nat} {e : Ending} (h : RetNew w xs n e w') (hn : 1 ≤ n) : ∃ a c g d, e = .returned (.agg #[.slice a xs.length c, .slice (some ⟨g, 0, none⟩) n d]) ∧
  Fr w.heap.size w w' [] [] [⟨3, .slice a xs.length c, xs.length, xs.map (Value.int .i64)⟩, ⟨2, .slice (some ⟨g, 0, none⟩) n d, n, (List.replicate n (0 : Int)).map (Value.int .i64)⟩] [] := by
 obtain ⟨a, c, b, d, mid, rfl, h1, h2, _, ⟨_, ho⟩, h3, hb⟩ := h
 obtain ⟨a', c', he, hsh⟩ := own_shape h3
 simp only [Value.slice.injEq] at he
 obtain ⟨rfl, _, rfl⟩ := he
 obtain ⟨g, rfl, _⟩ := hsh.resolve_left (by omega)
 refine ⟨a, c, g, d, rfl, hb.size, hb, by simp, .nil, by simp, ?_, by simp, ?_, by simp, .nil⟩
 ·intro q hq
  simp only [List.mem_cons, List.not_mem_nil, or_false] at hq
  rcases hq with rfl | rfl
  ·exact ho.own
  ·exact own_mono h3 h1
 ·simp only [List.pairwise_cons, List.mem_cons, List.not_mem_nil, or_false, forall_eq, List.Pairwise.nil, and_true, false_implies, implies_true]
  intro g hg hg2
  have := ho.lt g hg
  have := (h3.lt g hg2).1
  omega
/-- How many words a pool's answer has; where each word's greatest tap stands first, and that word. -/
def poN (xs : List Int) (wv : WinV) : Nat := (prodI (poS xs wv)).toNat
def poP (ys : List Int) (wv : WinV) : Nat → Int := mpI wv (prodI wv.O).toNat (prodI wv.L).toNat (prodI wv.K).toNat ys
def poV (ys : List Int) (wv : WinV) : Nat → Int := fun n => yAt ys (poP ys wv n)
/-- The numbers of a pool that is one. -/
structure PoolOK (xs ys : List Int) (wv : WinV) (N M T R NN : Nat) : Prop where
 ht : tenB xs ys = true
 hR : wv.R
 hr : 1 ≤ wv.L.length
 hok : wv.okB = true
 hf : wv.fullB = true
 gO : goodB wv.O = true
 gL : goodB wv.L = true
 gS : goodB (poS xs wv) = true
 hN : prodI wv.O = (N : Int)
 hM : prodI wv.L = (M : Int)
 hT : prodI wv.K = (T : Int)
 hNN : prodI (poS xs wv) = (NN : Int)
 nn : NN = R * N
 yl : ys.length = R * M
 n1 : 1 ≤ N
 m1 : 1 ≤ M
 t1 : 1 ≤ T
 r1 : 1 ≤ R
theorem pool_ok {xs ys : List Int} {wv : WinV} (hL : wv.L = xs.drop 2) (hz : winZ xs ys wv = 0) : ∃ R, PoolOK xs ys wv (prodI wv.O).toNat (prodI wv.L).toNat (prodI wv.K).toNat R (poN xs wv) := by
 obtain ⟨ht, h2⟩ := winZ_ok hz
 obtain ⟨h3, h4, h5, h6, h7⟩ := outZ_ok h2
 have lT := tenB_iff.1 ht
 have hg := lT.1
 obtain ⟨hR, hr⟩ := win_R hL hg h3 h4
 have hpS := goodB_prod h7
 have hdS := goodB_dims h7
 have hgi := goodB_iff.1 h7
 have hgx := goodB_iff.1 hg
 have hdx := goodB_dims hg
 have hDO : Dims wv.O := fun x hx => hdS x (by unfold poS; exact List.mem_append_right _ hx)
 have hpO := hDO.pos
 have hpK := hR.dimsK.pos
 have hpL := hR.dims.pos
 obtain ⟨d0, r0, e0⟩ : ∃ d0 r0, xs = d0 :: r0 := by
  cases xs with
  | nil => simp at h4; omega
  | cons d r => exact ⟨d, r, rfl⟩
 obtain ⟨d1, r1, e1⟩ : ∃ d1 r1, r0 = d1 :: r1 := by
  cases r0 with
  | nil => rw [e0] at h4; simp at h4; have := hR.s; rw [hL, e0] at this hr; simp at hr
  | cons d r => exact ⟨d, r, rfl⟩
 subst e1
 subst e0
 have hLr : wv.L = r1 := by rw [hL]; rfl
 have hSe : poS (d0 :: d1 :: r1) wv = d0 :: d1 :: wv.O := rfl
 have b0 := hdx d0 (by simp)
 have b1 := hdx d1 (by simp)
 rw [hSe] at hpS hgi h7
 have hpx := goodB_prod hg
 have hlen := lT.2.1
 simp only [prodI] at hpS hpx hlen
 obtain ⟨n0, hn0⟩ : ∃ n : Nat, d0 = n := ⟨d0.toNat, by omega⟩
 obtain ⟨n1, hn1⟩ : ∃ n : Nat, d1 = n := ⟨d1.toNat, by omega⟩
 obtain ⟨N, hN⟩ : ∃ n : Nat, prodI wv.O = n := ⟨(prodI wv.O).toNat, by omega⟩
 obtain ⟨M, hM⟩ : ∃ n : Nat, prodI wv.L = n := ⟨(prodI wv.L).toNat, by omega⟩
 obtain ⟨T, hT⟩ : ∃ n : Nat, prodI wv.K = n := ⟨(prodI wv.K).toNat, by omega⟩
 have hMr : prodI r1 = (M : Int) := by rw [← hLr]; exact hM
 subst hn0
 subst hn1
 rw [hN] at hpS hpO
 rw [hM] at hpL
 rw [hT] at hpK
 rw [hMr] at hlen hpx
 have hRpos : 1 ≤ n0 * n1 := Nat.mul_pos (by omega) (by omega)
 have hq1 : (n0 : Int) * ((n1 : Int) * (N : Int)) = ((n0 * n1 * N : Nat) : Int) := by rw [Int.natCast_mul, Int.natCast_mul, Int.mul_assoc]
 have hq2 : (n0 : Int) * ((n1 : Int) * (M : Int)) = ((n0 * n1 * M : Nat) : Int) := by rw [Int.natCast_mul, Int.natCast_mul, Int.mul_assoc]
 have hpp : prodI (poS ((n0 : Int) :: (n1 : Int) :: r1) wv) = ((n0 * n1 * N : Nat) : Int) := by rw [hSe]; simp only [prodI]; rw [hN, hq1]
 have hNle : N ≤ n0 * n1 * N := by have := Nat.mul_le_mul_right N hRpos; omega
 have hMle : M ≤ n0 * n1 * M := by have := Nat.mul_le_mul_right M hRpos; omega
 have hrl := hR.r
 have hOl := wv.O_len
 unfold poN
 rw [hpp, hN, hM, hT]
 simp only [Int.toNat_natCast]
 refine ⟨n0 * n1, ht, hR, hr, h5, h6, goodB_iff.2 ⟨by omega, hDO, by rw [hN]; rw [hq1] at hpS; omega⟩, goodB_iff.2 ⟨by omega, hR.dims, by rw [hM]; rw [hq2] at hpx; omega⟩, by rw [hSe]; exact h7, hN, hM, hT, hpp, rfl, by rw [hq2] at hlen; omega, by omega, by omega, by omega, hRpos⟩

set_option maxRecDepth 100000 in
set_option maxHeartbeats 4000000 in
theorem pmax_ok (a b : Option Addr) (c d : Nat) (xs ys : List Int) (aK aS aP aD : Option Addr) (cK cS cP cD : Nat) (wv : WinV) (w : World) (h : Ints .i64 w w.heap.size a xs) (h2 : Ints .i64 w w.heap.size b ys) (hK : Ints .i64 w w.heap.size aK wv.K) (hS : Ints .i64 w w.heap.size aS wv.S) (hP : Ints .i64 w w.heap.size aP wv.P) (hD : Ints .i64 w w.heap.size aD wv.D) (hL : wv.L = xs.drop 2) (hc1 : xs.length ≤ c) (hc2 : c ≤ 9223372036854775807) (hz : winZ xs ys wv = 0) (hgK : goodB wv.K = true) :
  Calls Try.prog 10 #[.agg #[.slice a xs.length c, .slice b ys.length d], .agg #[.slice aK wv.K.length cK, .slice aS wv.S.length cS, .slice aP wv.P.length cP, .slice aD wv.D.length cD]] w (RetPX w (poS xs wv) ((List.range (poN xs wv)).map (poV ys wv)) ((List.range (poN xs wv)).map (poP ys wv)) 0) := by
 obtain ⟨R, K⟩ := pool_ok hL hz
 have hx4 := (goodB_iff.1 (tenB_iff.1 K.ht).1).1
 have hlen := (outZ_ok (winZ_ok hz).2).2.1
 obtain ⟨b0, o0, rfl, _, _⟩ := h.cell 0 (by omega)
 have hiL := ints_drop h 2
 rw [← hL] at hiL
 have hwn := fun W h h2 hK hS hP hD => win_ok (some ⟨b0, o0, none⟩) b c d xs ys aK aS aP aD cK cS cP cD wv W h h2 hK hS hP hD hL hc1 hc2 (winZ_ok hz).1 (winZ_ok hz).2
 obtain ⟨NN, hNN⟩ : ∃ n, poN xs wv = n := ⟨_, rfl⟩
 obtain ⟨PF, hPF⟩ : ∃ f, poP ys wv = f := ⟨_, rfl⟩
 obtain ⟨VF, hVF⟩ : ∃ f, poV ys wv = f := ⟨_, rfl⟩
 have hPd : ∀ n, PF n = mpI wv (prodI wv.O).toNat (prodI wv.L).toNat (prodI wv.K).toNat ys n := fun n => by rw [← hPF]; rfl
 have hVd : ∀ n, VF n = yAt ys (PF n) := fun n => by rw [← hVF, ← hPF]; rfl
 obtain ⟨N, hNe⟩ : ∃ n, (prodI wv.O).toNat = n := ⟨_, rfl⟩
 obtain ⟨M, hMe⟩ : ∃ n, (prodI wv.L).toNat = n := ⟨_, rfl⟩
 obtain ⟨T, hTe⟩ : ∃ n, (prodI wv.K).toNat = n := ⟨_, rfl⟩
 rw [hNN, hNe, hMe, hTe] at K
 rw [hNe, hMe, hTe] at hPd
 rw [hNN, hPF, hVF]
 have hpb : ∀ n, n < NN → PF n ∈ wv.plcs N M n T ∧ 0 ≤ PF n ∧ PF n < (ys.length : Int) := fun n hn => by
  have := mpI_bound K.hR K.hok (goodB_dims K.gO) K.hf K.hT K.hM (n := n) (R := R) (by rw [← K.nn]; exact hn) ys
  rw [← hPd n] at this
  rw [K.yl]
  exact this
 have hplc : ∀ n, n < NN → ∀ t, ∀ p ∈ wv.plcs N M n t, 0 ≤ p ∧ p < (ys.length : Int) := fun n hn t p hp => by
  rw [K.yl]
  exact plcs_bound K.hR K.hM (R := R) (by rw [← K.nn]; exact hn) t p hp
 obtain ⟨S, hSe⟩ : ∃ s, poS xs wv = s := ⟨_, rfl⟩
 have hgS := K.gS
 have hpS := K.hNN
 rw [hSe] at hwn hgS hpS ⊢
 have hn1 : 1 ≤ NN := by rw [K.nn]; exact Nat.mul_pos K.r1 K.n1
 have hn2 : NN ≤ 65536 := by have := goodB_prod hgS; omega
 have hnw := fun a9 c9 W (h : Ints .i64 W W.heap.size a9 S) => elemNew_any a9 c9 S W h hgS
 rw [hpS, Int.toNat_natCast] at hnw
 have hswf : ∀ x ∈ S, (Lit.int .i64 x).wf = true := wf_dims (fun x hx => by have := goodB_dims hgS x hx; omega)
 have hM2 : M ≤ 65536 := by have := goodB_prod K.gL; have := K.hM; omega
 have heach := fun (n : Nat) cL aO cO W (hI : Ints .i64 W W.heap.size (some ⟨b0, o0 + 2, none⟩) wv.L) => each_any (some ⟨b0, o0 + 2, none⟩) aK aO aK aS aP aD cL cK cO cK cS cP cD wv.K wv n M W hI K.gL K.hM
 have hOw : ∀ x ∈ wv.O, (Lit.int .i64 x).wf = true := wf_dims (fun x hx => by have := goodB_dims K.gO x hx; omega)
 have HK := Lib.hid K
 have HWN := Lib.hid hwn
 have HPD := Lib.hid hPd
 have HVD := Lib.hid hVd
 have HPB := Lib.hid hpb
 have HPL := Lib.hid hplc
 have HNW := Lib.hid hnw
 have HSWF := Lib.hid hswf
 have HEA := Lib.hid heach
 have HOWF := Lib.hid hOw
 have HGK := Lib.hid hgK
 have HI0 := Lib.hid h
 have HI1 := Lib.hid h2
 have F1 := Lib.hid ((((Fr.start (w := w) (I := [(.i64, (some ⟨b0, o0, none⟩), xs), (.i64, b, ys), (.i64, aK, wv.K), (.i64, aS, wv.S), (.i64, aP, wv.P), (.i64, aD, wv.D), (.i64, (some ⟨b0, o0 + 2, none⟩), wv.L)]) (by intro z hz; simp at hz; rcases hz with rfl | rfl | rfl | rfl | rfl | rfl | rfl; exact h; exact h2; exact hK; exact hS; exact hP; exact hD; exact hiL)).box1 (b := w.heap.size) rfl [.slice (some ⟨b0, o0, none⟩) xs.length c, .slice b ys.length d] 26).box1 (b := w.heap.size + 1) (by simp) [.slice aK wv.K.length cK, .slice aS wv.S.length cS, .slice aP wv.P.length cP, .slice aD wv.D.length cD] 28).box1 (b := w.heap.size + 1 + 1) (by simp) [.slice none 0 0, .slice none 0 0] 26)
 simp only [List.nil_append, List.cons_append] at F1
 clear h h2 hK hS hP hD hiL hL hz hgK K hwn hNN hPF hVF hPd hVd hNe hMe hTe hpb hplc hSe hgS hpS hnw hswf heach hOw hc1 hc2 hlen
 refine (callsIn_wide (n := 20)).1 ?_
 refine callsIn_of_wp_marks Try.func10 rfl trivial ?_ rfl
 simp only [Try.ntmps10, List.size_toArray, List.length_cons, List.length_nil, Nat.reduceAdd, Nat.reduceSub, Array.replicate_succ, Array.replicate_zero, List.push_toArray, List.append_toArray, List.nil_append, List.cons_append]
 refine wpIn_wide.2 ?_
 go_upto_region 1 with fail
 obtain ⟨W1, hW1⟩ : ∃ W1, ((w.alloc (.cells #[.slice (some ⟨b0, o0, none⟩) xs.length c, .slice b ys.length d] 26)).alloc (.cells #[.slice aK wv.K.length cK, .slice aS wv.S.length cS, .slice aP wv.P.length cP, .slice aD wv.D.length cD] 28)).alloc (.cells #[.slice none 0 0, .slice none 0 0] 26) = W1 := ⟨_, rfl⟩
 rw [hW1] at F1 ⊢
 clear hW1
 have c0_0 := F1.out.c 0 0 rfl rfl
 have c0_1 := F1.out.c 0 1 rfl rfl
 have c1_0 := F1.out.c 1 0 rfl rfl
 have c1_1 := F1.out.c 1 1 rfl rfl
 have c1_2 := F1.out.c 1 2 rfl rfl
 have c1_3 := F1.out.c 1 3 rfl rfl
 go_upto_region 2 with (first | (go_at_call 32; refine (HWN.out _ (F1.out.lw 0 rfl) (F1.out.lw 1 rfl) (F1.out.lw 2 rfl) (F1.out.lw 3 rfl) (F1.out.lw 4 rfl) (F1.out.lw 5 rfl)).mono ?_; rintro e w2 ⟨aL, cL, aO, cO, as1, cs1, rfl, ⟨b9, o9, he, rfl⟩, hf⟩; cases he; have F2 := Lib.hid (F1.out.join hf); simp only [List.nil_append, List.cons_append] at F2; clear hf F1 c0_0 c0_1 c1_0 c1_1 c1_2 c1_3) | fail)
 obtain ⟨Y7, hY7⟩ : ∃ x, w2.heap.size = x := ⟨_, rfl⟩
 rw [hY7]
 have F3 := Lib.hid (F2.out.box1 (b := Y7) hY7 [.slice (some ⟨b0, o0 + 2, none⟩) wv.L.length cL, .slice aK wv.K.length cK, .slice aO wv.O.length cO, .slice aK wv.K.length cK, .slice aS wv.S.length cS, .slice aP wv.P.length cP, .slice aD wv.D.length cD] 68)
 simp only [List.nil_append, List.cons_append] at F3
 obtain ⟨W3, hW3⟩ : ∃ x, (w2.alloc (.cells #[.slice (some ⟨b0, o0 + 2, none⟩) wv.L.length cL, .slice aK wv.K.length cK, .slice aO wv.O.length cO, .slice aK wv.K.length cK, .slice aS wv.S.length cS, .slice aP wv.P.length cP, .slice aD wv.D.length cD] 68)) = x := ⟨_, rfl⟩
 rw [hW3] at F3 ⊢
 clear hW3 hY7 F2
 go_upto_region 4 with fail
 go_upto_region 5 with (first | (go_at_call 33; refine (HNW.out as1 cs1 _ (F3.out.li 1 (k := .i64) (xs := S) rfl HSWF.out)).mono ?_; rintro e w4 hr; obtain ⟨as_, cs_, gd, dd, rfl, hf⟩ := retNew_frP hr hn1; have F4 := Lib.hid (F3.out.join hf); simp only [List.cons_append, List.nil_append] at F4; clear hf hr F3; have d2_0 := F4.out.c 2 0 rfl rfl; have d2_1 := F4.out.c 2 1 rfl rfl; have df2_0 := F4.out.f 2 0 rfl rfl; have df2_1 := F4.out.f 2 1 rfl rfl) | fail)
 have F5 := Lib.hid (F4.out.set 2 rfl (by simp) [.slice as_ S.length cs_, .slice (some ⟨gd, 0, none⟩) NN dd] rfl)
 simp only [setL, Nat.reduceAdd, List.set_cons_zero, List.set_cons_succ] at F5
 obtain ⟨W5, hW5⟩ : ∃ x, (w4.setCell ⟨w.heap.size + 1 + 1, 0, none⟩ (.slice as_ S.length cs_)).setCell ⟨w.heap.size + 1 + 1, 1, none⟩ (.slice (some ⟨gd, 0, none⟩) NN dd) = x := ⟨_, rfl⟩
 rw [hW5] at F5 ⊢
 clear hW5 F4 d2_0 d2_1 df2_0 df2_1
 have c2_0 := F5.out.c 2 0 rfl rfl
 have c2_1 := F5.out.c 2 1 rfl rfl
 go_upto_region 6 with (first | (at_make; (refine wpl_make 23 3 .i64 infoInt Try.underlying23 W5.heap.size NN _ _ _ _ rfl rfl rfl rfl rfl rfl (by omega) (Nat.le_refl _) ?_); intro w6 hown hgrow hsz6; have F6 := Lib.hid (F5.out.addO (hgrow _ (Nat.le_refl _)) hown); simp only [List.cons_append, List.nil_append] at F6; clear hown hgrow F5; obtain ⟨gp, hgp⟩ : ∃ g, W5.heap.size = g := ⟨_, rfl⟩; rw [hgp] at F6; (try rw [hgp]); clear hgp hsz6) | fail)
 clear c2_0 c2_1
 have hz0 := range_zeroP NN
 rw [← hz0] at F6
 have F6b := F6.out
 have e1 : (List.range NN).map (fun _ => (0 : Int)) = (List.range NN).map (upto VF 0) := by rw [upto_zero]
 have e2 : (List.range NN).map (fun _ => (0 : Int)) = (List.range NN).map (upto PF 0) := by rw [upto_zero]
 have F7 : Hid (Fr w.heap.size w w6 [(w.heap.size, [.slice (some ⟨b0, o0, none⟩) xs.length c, .slice b ys.length d]), (w.heap.size + 1, [.slice aK wv.K.length cK, .slice aS wv.S.length cS, .slice aP wv.P.length cP, .slice aD wv.D.length cD]), (w.heap.size + 1 + 1, [.slice as_ S.length cs_, .slice (some ⟨gd, 0, none⟩) NN dd]), (Y7, [.slice (some ⟨b0, o0 + 2, none⟩) wv.L.length cL, .slice aK wv.K.length cK, .slice aO wv.O.length cO, .slice aK wv.K.length cK, .slice aS wv.S.length cS, .slice aP wv.P.length cP, .slice aD wv.D.length cD])] [(.i64, (some ⟨b0, o0, none⟩), xs), (.i64, b, ys), (.i64, aK, wv.K), (.i64, aS, wv.S), (.i64, aP, wv.P), (.i64, aD, wv.D), (.i64, (some ⟨b0, o0 + 2, none⟩), wv.L)] [⟨3, .slice aO wv.O.length cO, wv.O.length, wv.O.map (Value.int .i64)⟩, ⟨3, .slice as1 S.length cs1, S.length, S.map (Value.int .i64)⟩, ⟨3, .slice as_ S.length cs_, S.length, S.map (Value.int .i64)⟩, ⟨2, .slice (some ⟨gd, 0, none⟩) NN dd, NN, ((List.range NN).map (upto VF 0)).map (Value.int .i64)⟩, ⟨3, .slice (some ⟨gp, 0, none⟩) NN NN, NN, ((List.range NN).map (upto PF 0)).map (Value.int .i64)⟩] []) := Lib.hid (by first | exact (e1 ▸ e2 ▸ F6b) | (rw [← e1, ← e2]; exact F6b) | (rw [← e1]; rw [← e2]; exact F6b))
 clear F6 F6b hz0 e1 e2
 have c2_0 := F7.out.c 2 0 rfl rfl
 have c2_1 := F7.out.c 2 1 rfl rfl
 go_wp2
 refine wp_loopF (fun s w' ds => ∃ (n : Nat) (Ds : List Nat), n ≤ NN ∧ s 32 = .int .i64 (n : Int) ∧ ds = mkD Ds ∧ Hid (Fr w.heap.size w w' [(w.heap.size, [.slice (some ⟨b0, o0, none⟩) xs.length c, .slice b ys.length d]), (w.heap.size + 1, [.slice aK wv.K.length cK, .slice aS wv.S.length cS, .slice aP wv.P.length cP, .slice aD wv.D.length cD]), (w.heap.size + 1 + 1, [.slice as_ S.length cs_, .slice (some ⟨gd, 0, none⟩) NN dd]), (Y7, [.slice (some ⟨b0, o0 + 2, none⟩) wv.L.length cL, .slice aK wv.K.length cK, .slice aO wv.O.length cO, .slice aK wv.K.length cK, .slice aS wv.S.length cS, .slice aP wv.P.length cP, .slice aD wv.D.length cD])] [(.i64, (some ⟨b0, o0, none⟩), xs), (.i64, b, ys), (.i64, aK, wv.K), (.i64, aS, wv.S), (.i64, aP, wv.P), (.i64, aD, wv.D), (.i64, (some ⟨b0, o0 + 2, none⟩), wv.L)] [⟨3, .slice aO wv.O.length cO, wv.O.length, wv.O.map (Value.int .i64)⟩, ⟨3, .slice as1 S.length cs1, S.length, S.map (Value.int .i64)⟩, ⟨3, .slice as_ S.length cs_, S.length, S.map (Value.int .i64)⟩, ⟨2, .slice (some ⟨gd, 0, none⟩) NN dd, NN, ((List.range NN).map (upto VF n)).map (Value.int .i64)⟩, ⟨3, .slice (some ⟨gp, 0, none⟩) NN NN, NN, ((List.range NN).map (upto PF n)).map (Value.int .i64)⟩] (mkM Ds))) (fun s => #[s 0, s 1, .pointer (some ⟨w.heap.size, 0, none⟩), s 3, .pointer (some ⟨w.heap.size + 1 + 1, 0, none⟩), .slice (some ⟨gp, 0, none⟩) NN NN, s 6, .pointer (some ⟨Y7, 0, none⟩), s 8, s 9, s 10, s 11, s 12, s 13, s 14, s 15, s 16, s 17, s 18, s 19, s 20, s 21, s 22, s 23, s 24, s 25, s 26, s 27, s 28, s 29, s 30, .int .i64 (NN : Int), s 32, s 33, s 34, s 35, s 36, s 37, s 38, s 39, s 40, s 41, s 42, s 43, s 44, s 45, s 46, s 47, s 48, s 49, s 50, s 51, s 52, s 53, s 54, s 55, s 56, s 57, s 58, s 59, s 60, s 61, s 62, s 63, s 64, s 65, s 66, s 67, s 68, s 69, s 70, s 71, s 72, s 73, s 74, s 75, s 76, s 77, s 78, s 79, s 80, s 81, s 82, s 83, s 84, s 85, s 86, s 87, s 88]) (fun s => NN - (intOf (s 32)).toNat) ⟨0, [], Nat.zero_le _, rfl, rfl, F7⟩ rfl ?_
 rintro s wr ds ⟨n, Ds, hn, h32, rfl, F8⟩
 clear F7 c2_0 c2_1
 obtain ⟨wo, rfl⟩ : ∃ x : World, x = wr := ⟨_, rfl⟩
 dsimp only
 rw [h32]
 have hN32 := Lib.hid h32
 clear h32
 by_cases hlt : n < NN
 ·skip
  have hni : (n : Int) < (NN : Int) := by omega
  obtain ⟨LD, hLD⟩ : ∃ l, ((List.range NN).map (upto VF n)).map (Value.int .i64) = l := ⟨_, rfl⟩
  obtain ⟨LP, hLP⟩ : ∃ l, ((List.range NN).map (upto PF n)).map (Value.int .i64) = l := ⟨_, rfl⟩
  rw [hLD, hLP] at F8
  have HLD := Lib.hid hLD
  have HLP := Lib.hid hLP
  clear hLD hLP
  go_wp2
  obtain ⟨Yb, hYb⟩ : ∃ x, wo.heap.size = x := ⟨_, rfl⟩
  have F9 := Lib.hid (F8.out.box1 (b := Yb) hYb [.int .i64 (-1)] 3)
  simp only [List.nil_append, List.cons_append] at F9
  go_step3
  go_wp2
  obtain ⟨W9, hW9⟩ : ∃ x, (wo.alloc (.cells #[.int .i64 (-1)] 3)) = x := ⟨_, rfl⟩
  rw [hW9] at F9 ⊢
  clear hW9 hYb F8
  go_step3
  have c3_0 := F9.out.c 3 0 rfl rfl
  have c3_1 := F9.out.c 3 1 rfl rfl
  have c3_2 := F9.out.c 3 2 rfl rfl
  have c3_3 := F9.out.c 3 3 rfl rfl
  have c3_4 := F9.out.c 3 4 rfl rfl
  have c3_5 := F9.out.c 3 5 rfl rfl
  have c3_6 := F9.out.c 3 6 rfl rfl
  go_upto_block 2 with (first | (go_at_call 34; refine (HEA.out n cL aO cO _ (F9.out.lw 6 rfl)).mono ?_; rintro e w10 ⟨rfl, hf⟩; have F10 := Lib.hid (F9.out.join2 hf); simp only [List.nil_append, List.cons_append, List.append_nil] at F10; clear hf F9 c3_0 c3_1 c3_2 c3_3 c3_4 c3_5 c3_6) | fail)
  obtain ⟨X1, hX1⟩ : ∃ x, W9.heap.size = x := ⟨_, rfl⟩
  rw [hX1] at F10 ⊢
  clear hX1
  obtain ⟨D, hD⟩ : ∃ D, w10.heap.size = D := ⟨_, rfl⟩
  have hpn := HPD.out n
  unfold mpI at hpn
  have HPN := Lib.hid hpn
  clear hpn
  go_wp2
  refine wpIn_wide.1 (wpIn_rangeFunc_any (n := 20) rfl (by omega) (gf := 59) (lb := #[.pointer (some ⟨X1, 0, none⟩), .pointer (some ⟨X1 + 1, 0, none⟩), .pointer (some ⟨X1 + 1 + 1, 0, none⟩)]) rfl trivial (enters_of Try.func59 (by kernel_rfl) rfl) D hD
   (fun W2 => ∃ o, Hid (Fr w.heap.size w W2 [(w.heap.size, [.slice (some ⟨b0, o0, none⟩) xs.length c, .slice b ys.length d]), (w.heap.size + 1, [.slice aK wv.K.length cK, .slice aS wv.S.length cS, .slice aP wv.P.length cP, .slice aD wv.D.length cD]), (w.heap.size + 1 + 1, [.slice as_ S.length cs_, .slice (some ⟨gd, 0, none⟩) NN dd]), (Y7, [.slice (some ⟨b0, o0 + 2, none⟩) wv.L.length cL, .slice aK wv.K.length cK, .slice aO wv.O.length cO, .slice aK wv.K.length cK, .slice aS wv.S.length cS, .slice aP wv.P.length cP, .slice aD wv.D.length cD]), (Yb, [.int .i64 (pickI ys (wv.plcs N M n T))]), (X1, [.slice (some ⟨b0, o0 + 2, none⟩) wv.L.length cL, .slice aK wv.K.length cK, .slice aO wv.O.length cO, .slice aK wv.K.length cK, .slice aS wv.S.length cS, .slice aP wv.P.length cP, .slice aD wv.D.length cD]), (X1 + 1, [.int .i64 (n : Int)]), (X1 + 1 + 1, [.int .i64 (M : Int)])] [(.i64, (some ⟨b0, o0, none⟩), xs), (.i64, b, ys), (.i64, aK, wv.K), (.i64, aS, wv.S), (.i64, aP, wv.P), (.i64, aD, wv.D), (.i64, (some ⟨b0, o0 + 2, none⟩), wv.L)] [⟨3, .slice aO wv.O.length cO, wv.O.length, wv.O.map (Value.int .i64)⟩, ⟨3, .slice as1 S.length cs1, S.length, S.map (Value.int .i64)⟩, ⟨3, .slice as_ S.length cs_, S.length, S.map (Value.int .i64)⟩, ⟨2, .slice (some ⟨gd, 0, none⟩) NN dd, NN, LD⟩, ⟨3, .slice (some ⟨gp, 0, none⟩) NN NN, NN, LP⟩] ((D + 1, o) :: (D, .deferred (some [])) :: mkM Ds))) (fun _ _ => False) ?hcall ?hdone ?hstop)
  case hstop =>
   intro cc W2 o ho hf
   exact hf.elim
  case hcall =>
   intro fn R hfn hR
   have HR := Lib.hid hR
   clear hR
   have F11 := Lib.hid (((F10.out.recM hD (.deferred (some [])) rfl).frontM.recM (b := D + 1) (by simp [hD]) (.loop (R .ready none)) rfl).frontM)
   have hsz11 : ((w10.alloc (.deferred (some []))).alloc (.loop (R .ready none))).heap.size = D + 2 := by simp [hD]
   obtain ⟨W11, hW11⟩ : ∃ W11, ((w10.alloc (.deferred (some []))).alloc (.loop (R .ready none))) = W11 := ⟨_, rfl⟩
   rw [hW11] at F11 hsz11 ⊢
   have H0 := FrS.of F11.out (fun p hp => (Array.getElem?_eq_some_iff.1 (F11.out.obj p hp).1).1)
   rw [hsz11] at H0
   have HJ0 := Lib.hid H0
   clear hW11 F10 H0 F11
   refine (eachIter 19 (by omega) (D + 1) X1 (X1 + 1) (X1 + 1 + 1) N M n T (D + 2) (some ⟨b0, o0 + 2, none⟩) aK aO aK aS aP aD cL cK cO cK cS cP cD wv.K wv W11 hsz11 (fun k V => FrS (D + 2) w.heap.size w V [(w.heap.size, [.slice (some ⟨b0, o0, none⟩) xs.length c, .slice b ys.length d]), (w.heap.size + 1, [.slice aK wv.K.length cK, .slice aS wv.S.length cS, .slice aP wv.P.length cP, .slice aD wv.D.length cD]), (w.heap.size + 1 + 1, [.slice as_ S.length cs_, .slice (some ⟨gd, 0, none⟩) NN dd]), (Y7, [.slice (some ⟨b0, o0 + 2, none⟩) wv.L.length cL, .slice aK wv.K.length cK, .slice aO wv.O.length cO, .slice aK wv.K.length cK, .slice aS wv.S.length cS, .slice aP wv.P.length cP, .slice aD wv.D.length cD]), (Yb, [.int .i64 (pickI ys (wv.plcs N M n k))]), (X1, [.slice (some ⟨b0, o0 + 2, none⟩) wv.L.length cL, .slice aK wv.K.length cK, .slice aO wv.O.length cO, .slice aK wv.K.length cK, .slice aS wv.S.length cS, .slice aP wv.P.length cP, .slice aD wv.D.length cD]), (X1 + 1, [.int .i64 (n : Int)]), (X1 + 1 + 1, [.int .i64 (M : Int)])] [(.i64, (some ⟨b0, o0, none⟩), xs), (.i64, b, ys), (.i64, aK, wv.K), (.i64, aS, wv.S), (.i64, aP, wv.P), (.i64, aD, wv.D), (.i64, (some ⟨b0, o0 + 2, none⟩), wv.L)] [⟨3, .slice aO wv.O.length cO, wv.O.length, wv.O.map (Value.int .i64)⟩, ⟨3, .slice as1 S.length cs1, S.length, S.map (Value.int .i64)⟩, ⟨3, .slice as_ S.length cs_, S.length, S.map (Value.int .i64)⟩, ⟨2, .slice (some ⟨gd, 0, none⟩) NN dd, NN, LD⟩, ⟨3, .slice (some ⟨gp, 0, none⟩) NN NN, NN, LP⟩] ((D + 1, .loop (R .ready none)) :: (D, .deferred (some [])) :: mkM Ds)) (fun _ => False) HK.out.hR HK.out.hok HK.out.hr HK.out.gO HGK.out HK.out.hT HK.out.hN hM2 (by omega) (fun k W1 W2 h hb => h.below hb) (fun _ _ h _ => h) (fun _ h => h.elim) ?hJB ?hskip ?hY HJ0.out).mono ?post
   case post =>
    rintro e V ⟨hv, h | h⟩
    ·exact ⟨hv, .inl ⟨⟨_, Lib.hid h.fr⟩, h.fr.m 0 rfl⟩⟩
    ·exact h.elim
   case hJB =>
    rintro k V h
    exact ⟨h.sz, (h.fr.box _ (List.mem_of_getElem? (i := 5) rfl)).1, (h.fr.box _ (List.mem_of_getElem? (i := 6) rfl)).1, (h.fr.box _ (List.mem_of_getElem? (i := 7) rfl)).1, h.fr.lw 6 rfl, h.fr.lw 2 rfl, h.fr.li 0 (k := .i64) (xs := wv.O) rfl HOWF.out, h.fr.lw 3 rfl, h.fr.lw 4 rfl, h.fr.lw 5 rfl⟩
   case hskip =>
    intro t V1 ht hf hj
    have e : wv.plcs N M n (t + 1) = wv.plcs N M n t := by rw [WinV.plcs_succ, if_neg (by rw [hf]; decide)]
    rw [e]
    exact hj
   case hY =>
    rintro t V1 ht htw hj
    have hps := WinV.plcs_succ wv N M n t
    rw [if_pos htw] at hps
    obtain ⟨p, hp⟩ : ∃ p, (((n / N * M : Nat) : Int) + wv.wI (n % N) t) = p := ⟨_, rfl⟩
    rw [hp] at hps ⊢
    have hpb := HPL.out n hlt (t + 1) p (by rw [hps]; simp)
    have hpk := pick_snoc ys (wv.plcs N M n t) p
    rw [← hps] at hpk
    have hpo := pick_or ys (wv.plcs N M n t)
    have hpl := HPL.out n hlt t
    obtain ⟨pb, hpbe⟩ : ∃ z, pickI ys (wv.plcs N M n t) = z := ⟨_, rfl⟩
    rw [hpbe] at hpk hj hpo
    obtain ⟨pz, hpz⟩ : ∃ z : Nat, p = (z : Int) := ⟨p.toNat, by omega⟩
    subst hpz
    have hpbb : -1 ≤ pb ∧ pb < (ys.length : Int) := by
     rcases hpo with ⟨h, _⟩ | h
     ·omega
     ·have := hpl pb h; omega
    have HPK := Lib.hid hpk
    have hpz1 : pz < ys.length := by omega
    clear hps hp hpb hpk hpo hpl hpbe
    refine yieldAt_roundR hfn HR.out (hj.fr.m 0 rfl) rfl ?_
    have G1 := Lib.hid (hj.fr.putM 0 rfl (.loop (R .busy none)) rfl)
    simp only [List.set_cons_zero, List.set_cons_succ] at G1
    have HJ := Lib.hid hj
    have HKP := Lib.hid (Kept.putObj (D + 2) V1 (D + 1) (.loop (R .busy none)) (by omega))
    clear hj hfn HJ0
    gi_wp2
    refine ⟨HJ.out.fr.m 0 rfl, ?_⟩
    obtain ⟨V, hV⟩ : ∃ V, V1.putObj (D + 1) (.loop (R .busy none)) = V := ⟨_, rfl⟩
    rw [hV] at G1 HKP ⊢
    clear hV
    obtain ⟨gy, oy, rfl, _, _⟩ := HI1.out.cell pz hpz1
    obtain ⟨yp, hyp⟩ : ∃ x, ys[pz]?.getD 0 = x := ⟨_, rfl⟩
    have HYP := Lib.hid hyp
    clear hyp
    (repeat gi_step)
    by_cases hpb0 : pb < 0
    ·skip
     have DB := Lib.hid (decide_eq_false (by omega : ¬ (0 : Int) ≤ pb))
     refine wpIn_region_inv (w := V) 33 (fun _ W2 => Kept (D + 2) V W2) (fun _ W => Fr w.heap.size w W [(w.heap.size, [.slice (some ⟨b0, o0, none⟩) xs.length c, .slice (some ⟨gy, oy, none⟩) ys.length d]), (w.heap.size + 1, [.slice aK wv.K.length cK, .slice aS wv.S.length cS, .slice aP wv.P.length cP, .slice aD wv.D.length cD]), (w.heap.size + 1 + 1, [.slice as_ S.length cs_, .slice (some ⟨gd, 0, none⟩) NN dd]), (Y7, [.slice (some ⟨b0, o0 + 2, none⟩) wv.L.length cL, .slice aK wv.K.length cK, .slice aO wv.O.length cO, .slice aK wv.K.length cK, .slice aS wv.S.length cS, .slice aP wv.P.length cP, .slice aD wv.D.length cD]), (Yb, [.int .i64 pb]), (X1, [.slice (some ⟨b0, o0 + 2, none⟩) wv.L.length cL, .slice aK wv.K.length cK, .slice aO wv.O.length cO, .slice aK wv.K.length cK, .slice aS wv.S.length cS, .slice aP wv.P.length cP, .slice aD wv.D.length cD]), (X1 + 1, [.int .i64 (n : Int)]), (X1 + 1 + 1, [.int .i64 (M : Int)])] [(.i64, (some ⟨b0, o0, none⟩), xs), (.i64, (some ⟨gy, oy, none⟩), ys), (.i64, aK, wv.K), (.i64, aS, wv.S), (.i64, aP, wv.P), (.i64, aD, wv.D), (.i64, (some ⟨b0, o0 + 2, none⟩), wv.L)] [⟨3, .slice aO wv.O.length cO, wv.O.length, wv.O.map (Value.int .i64)⟩, ⟨3, .slice as1 S.length cs1, S.length, S.map (Value.int .i64)⟩, ⟨3, .slice as_ S.length cs_, S.length, S.map (Value.int .i64)⟩, ⟨2, .slice (some ⟨gd, 0, none⟩) NN dd, NN, LD⟩, ⟨3, .slice (some ⟨gp, 0, none⟩) NN NN, NN, LP⟩] ((D + 1, .loop (R .busy none)) :: (D, .deferred (some [])) :: mkM Ds)) [] [(fun u _ => u = .int .i64 pb), (fun u _ => u = .bool false), (fun u _ => u = .bool false), (fun u _ => u = undef), (fun u _ => u = undef), (fun u _ => u = undef), (fun u _ => u = undef), (fun u _ => u = undef), (fun u _ => u = undef), (fun u _ => u = undef), (fun u _ => u = undef), (fun u _ => u = undef), (fun u _ => u = undef), (fun u _ => u = undef), (fun u _ => u = undef), (fun u _ => u = undef), (fun u _ => u = undef), (fun u _ => u = undef), (fun u _ => u = undef), (fun u _ => u = undef), (fun u _ => u = undef), (fun u _ => u = undef), (fun u _ => u = undef), (fun u _ => u = undef), (fun u _ => u = undef), (fun u _ => u = undef), (fun u _ => u = undef), (fun u _ => u = undef), (fun u _ => u = undef), (fun u _ => u = undef), (fun u _ => u = undef), (fun u _ => u = undef), (fun u _ => u = .bool false)] [some 39, some 40, some 41, some 42, some 43, some 44, some 45, some 46, some 47, some 48, some 49, some 50, some 51, some 52, some 53, some 54, some 55, some 56, some 57, some 58, some 59, some 60, some 61, some 62, some 63, some 64, some 65, some 66, some 67, some 68, some 69, some 70, some 71] (by kernel_rfl) (by kernel_rfl) rfl (by kernel_rfl) (by kernel_rfl) (by decide) (by decide) (fun _ h => h) (Kept.of_below (Below.drew (Below.refl _ _))) G1.out.drew (BorneAll.at (.cons (borne_eq _) (.cons (borne_eq _) (.cons (borne_eq _) (.cons (borne_eq _) (.cons (borne_eq _) (.cons (borne_eq _) (.cons (borne_eq _) (.cons (borne_eq _) (.cons (borne_eq _) (.cons (borne_eq _) (.cons (borne_eq _) (.cons (borne_eq _) (.cons (borne_eq _) (.cons (borne_eq _) (.cons (borne_eq _) (.cons (borne_eq _) (.cons (borne_eq _) (.cons (borne_eq _) (.cons (borne_eq _) (.cons (borne_eq _) (.cons (borne_eq _) (.cons (borne_eq _) (.cons (borne_eq _) (.cons (borne_eq _) (.cons (borne_eq _) (.cons (borne_eq _) (.cons (borne_eq _) (.cons (borne_eq _) (.cons (borne_eq _) (.cons (borne_eq _) (.cons (borne_eq _) (.cons (borne_eq _) (.cons (borne_eq _) .nil)))))))))))))))))))))))))))))))))) (fun vs b hvl hvb => ?_)
     obtain ⟨x0, x1, x2, x3, x4, x5, x6, x7, x8, x9, x10, x11, x12, x13, x14, x15, x16, x17, x18, x19, x20, x21, x22, x23, x24, x25, x26, x27, x28, x29, x30, x31, x32, rfl⟩ : ∃ x0 x1 x2 x3 x4 x5 x6 x7 x8 x9 x10 x11 x12 x13 x14 x15 x16 x17 x18 x19 x20 x21 x22 x23 x24 x25 x26 x27 x28 x29 x30 x31 x32, vs = [x0, x1, x2, x3, x4, x5, x6, x7, x8, x9, x10, x11, x12, x13, x14, x15, x16, x17, x18, x19, x20, x21, x22, x23, x24, x25, x26, x27, x28, x29, x30, x31, x32] := lw33 hvl
     clear hvl
     simp only [putAll, Act.put, List.setIfInBounds_toArray, List.set_cons_zero, List.set_cons_succ] at hvb
     subst hvb
     refine ⟨(.snoc (.snoc (.snoc (.snoc (.snoc (.snoc (.snoc (.snoc (.snoc (.snoc (.snoc (.snoc (.snoc (.snoc (.snoc (.snoc (.snoc (.snoc (.snoc (.snoc (.snoc (.snoc (.snoc (.snoc (.snoc (.snoc (.snoc (.snoc (.snoc (.snoc (.snoc (.snoc (.snoc .zero (InvObIn.intro (d := (some 39)) (r := fun u _ => u = .int .i64 pb) 0 0 rfl rfl rfl (by kernel_rfl) (by kernel_rfl) rfl ?io12Ax0)) (InvObIn.intro (d := (some 40)) (r := fun u _ => u = .bool false) 0 0 rfl rfl rfl (by kernel_rfl) (by kernel_rfl) rfl ?io12Ax1)) (InvObIn.intro (d := (some 41)) (r := fun u _ => u = .bool false) 0 0 rfl rfl rfl (by kernel_rfl) (by kernel_rfl) rfl ?io12Ax2)) (InvObIn.intro (d := (some 42)) (r := fun u _ => u = undef) 0 0 rfl rfl rfl (by kernel_rfl) (by kernel_rfl) rfl ?io12Ax3)) (InvObIn.intro (d := (some 43)) (r := fun u _ => u = undef) 0 0 rfl rfl rfl (by kernel_rfl) (by kernel_rfl) rfl ?io12Ax4)) (InvObIn.intro (d := (some 44)) (r := fun u _ => u = undef) 0 0 rfl rfl rfl (by kernel_rfl) (by kernel_rfl) rfl ?io12Ax5)) (InvObIn.intro (d := (some 45)) (r := fun u _ => u = undef) 0 0 rfl rfl rfl (by kernel_rfl) (by kernel_rfl) rfl ?io12Ax6)) (InvObIn.intro (d := (some 46)) (r := fun u _ => u = undef) 0 0 rfl rfl rfl (by kernel_rfl) (by kernel_rfl) rfl ?io12Ax7)) (InvObIn.intro (d := (some 47)) (r := fun u _ => u = undef) 0 0 rfl rfl rfl (by kernel_rfl) (by kernel_rfl) rfl ?io12Ax8)) (InvObIn.intro (d := (some 48)) (r := fun u _ => u = undef) 0 0 rfl rfl rfl (by kernel_rfl) (by kernel_rfl) rfl ?io12Ax9)) (InvObIn.intro (d := (some 49)) (r := fun u _ => u = undef) 0 0 rfl rfl rfl (by kernel_rfl) (by kernel_rfl) rfl ?io12Ax10)) (InvObIn.intro (d := (some 50)) (r := fun u _ => u = undef) 0 0 rfl rfl rfl (by kernel_rfl) (by kernel_rfl) rfl ?io12Ax11)) (InvObIn.intro (d := (some 51)) (r := fun u _ => u = undef) 0 0 rfl rfl rfl (by kernel_rfl) (by kernel_rfl) rfl ?io12Ax12)) (InvObIn.intro (d := (some 52)) (r := fun u _ => u = undef) 0 0 rfl rfl rfl (by kernel_rfl) (by kernel_rfl) rfl ?io12Ax13)) (InvObIn.intro (d := (some 53)) (r := fun u _ => u = undef) 0 0 rfl rfl rfl (by kernel_rfl) (by kernel_rfl) rfl ?io12Ax14)) (InvObIn.intro (d := (some 54)) (r := fun u _ => u = undef) 0 0 rfl rfl rfl (by kernel_rfl) (by kernel_rfl) rfl ?io12Ax15)) (InvObIn.intro (d := (some 55)) (r := fun u _ => u = undef) 0 0 rfl rfl rfl (by kernel_rfl) (by kernel_rfl) rfl ?io12Ax16)) (InvObIn.intro (d := (some 56)) (r := fun u _ => u = undef) 0 0 rfl rfl rfl (by kernel_rfl) (by kernel_rfl) rfl ?io12Ax17)) (InvObIn.intro (d := (some 57)) (r := fun u _ => u = undef) 0 0 rfl rfl rfl (by kernel_rfl) (by kernel_rfl) rfl ?io12Ax18)) (InvObIn.intro (d := (some 58)) (r := fun u _ => u = undef) 0 0 rfl rfl rfl (by kernel_rfl) (by kernel_rfl) rfl ?io12Ax19)) (InvObIn.intro (d := (some 59)) (r := fun u _ => u = undef) 0 0 rfl rfl rfl (by kernel_rfl) (by kernel_rfl) rfl ?io12Ax20)) (InvObIn.intro (d := (some 60)) (r := fun u _ => u = undef) 0 0 rfl rfl rfl (by kernel_rfl) (by kernel_rfl) rfl ?io12Ax21)) (InvObIn.intro (d := (some 61)) (r := fun u _ => u = undef) 0 0 rfl rfl rfl (by kernel_rfl) (by kernel_rfl) rfl ?io12Ax22)) (InvObIn.intro (d := (some 62)) (r := fun u _ => u = undef) 0 0 rfl rfl rfl (by kernel_rfl) (by kernel_rfl) rfl ?io12Ax23)) (InvObIn.intro (d := (some 63)) (r := fun u _ => u = undef) 0 0 rfl rfl rfl (by kernel_rfl) (by kernel_rfl) rfl ?io12Ax24)) (InvObIn.intro (d := (some 64)) (r := fun u _ => u = undef) 0 0 rfl rfl rfl (by kernel_rfl) (by kernel_rfl) rfl ?io12Ax25)) (InvObIn.intro (d := (some 65)) (r := fun u _ => u = undef) 0 0 rfl rfl rfl (by kernel_rfl) (by kernel_rfl) rfl ?io12Ax26)) (InvObIn.intro (d := (some 66)) (r := fun u _ => u = undef) 0 0 rfl rfl rfl (by kernel_rfl) (by kernel_rfl) rfl ?io12Ax27)) (InvObIn.intro (d := (some 67)) (r := fun u _ => u = undef) 0 0 rfl rfl rfl (by kernel_rfl) (by kernel_rfl) rfl ?io12Ax28)) (InvObIn.intro (d := (some 68)) (r := fun u _ => u = undef) 0 0 rfl rfl rfl (by kernel_rfl) (by kernel_rfl) rfl ?io12Ax29)) (InvObIn.intro (d := (some 69)) (r := fun u _ => u = undef) 0 0 rfl rfl rfl (by kernel_rfl) (by kernel_rfl) rfl ?io12Ax30)) (InvObIn.intro (d := (some 70)) (r := fun u _ => u = undef) 0 0 rfl rfl rfl (by kernel_rfl) (by kernel_rfl) rfl ?io12Ax31)) (InvObIn.intro (d := (some 71)) (r := fun u _ => u = .bool false) 0 0 rfl rfl rfl (by kernel_rfl) (by kernel_rfl) rfl ?io12Ax32)), ?iend12A⟩
     case io12Ax0 =>
      intro k1 w1 hk0 hk1 hb1 hS hd KK hK
      clear hd
      have k0 := hS.c 4 0 rfl rfl
      simp only [Act.put, List.setIfInBounds_toArray, List.set_cons_zero, List.set_cons_succ] at hK
      go_simp
      first | exact hK.out _ _ hb1 hS rfl | (have hk := hK.out _ _ hb1 hS rfl; revert hk; go_simp)
     case io12Ax1 =>
      intro k1 w1 hk0 hk1 hb1 hS hd KK hK
      have d0 : x0 = .int .i64 pb := hd 0 (by kernel_rfl)
      clear hd
      subst d0
      have dx := DB.out
      simp only [Act.put, List.setIfInBounds_toArray, List.set_cons_zero, List.set_cons_succ] at hK
      go_simp
      first | exact hK.out _ _ hb1 hS rfl | (have hk := hK.out _ _ hb1 hS rfl; revert hk; go_simp)
     case io12Ax2 =>
      intro k1 w1 hk0 hk1 hb1 hS hd KK hK
      have d1 : x1 = .bool false := hd 1 (by kernel_rfl)
      clear hd
      subst d1
      simp only [Act.put, List.setIfInBounds_toArray, List.set_cons_zero, List.set_cons_succ] at hK
      go_simp
      first | exact hK.out _ _ hb1 hS rfl | (have hk := hK.out _ _ hb1 hS rfl; revert hk; go_simp)
     case io12Ax3 =>
      intro k1 w1 hk0 hk1 hb1 hS hd KK hK
      have d2 : x2 = .bool false := hd 2 (by kernel_rfl)
      clear hd
      subst d2
      simp only [Act.put, List.setIfInBounds_toArray, List.set_cons_zero, List.set_cons_succ] at hK
      go_simp
      first | exact hK.out _ _ hb1 hS rfl | (have hk := hK.out _ _ hb1 hS rfl; revert hk; go_simp)
     case io12Ax4 =>
      intro k1 w1 hk0 hk1 hb1 hS hd KK hK
      have d2 : x2 = .bool false := hd 2 (by kernel_rfl)
      have d3 : x3 = undef := hd 3 (by kernel_rfl)
      clear hd
      subst d2
      subst d3
      simp only [Act.put, List.setIfInBounds_toArray, List.set_cons_zero, List.set_cons_succ] at hK
      go_simp
      first | exact hK.out _ _ hb1 hS rfl | (have hk := hK.out _ _ hb1 hS rfl; revert hk; go_simp)
     case io12Ax5 =>
      intro k1 w1 hk0 hk1 hb1 hS hd KK hK
      have d2 : x2 = .bool false := hd 2 (by kernel_rfl)
      clear hd
      subst d2
      simp only [Act.put, List.setIfInBounds_toArray, List.set_cons_zero, List.set_cons_succ] at hK
      go_simp
      first | exact hK.out _ _ hb1 hS rfl | (have hk := hK.out _ _ hb1 hS rfl; revert hk; go_simp)
     case io12Ax6 =>
      intro k1 w1 hk0 hk1 hb1 hS hd KK hK
      have d2 : x2 = .bool false := hd 2 (by kernel_rfl)
      have d4 : x4 = undef := hd 4 (by kernel_rfl)
      have d5 : x5 = undef := hd 5 (by kernel_rfl)
      clear hd
      subst d2
      subst d4
      subst d5
      simp only [Act.put, List.setIfInBounds_toArray, List.set_cons_zero, List.set_cons_succ] at hK
      go_simp
      first | exact hK.out _ _ hb1 hS rfl | (have hk := hK.out _ _ hb1 hS rfl; revert hk; go_simp)
     case io12Ax7 =>
      intro k1 w1 hk0 hk1 hb1 hS hd KK hK
      have d2 : x2 = .bool false := hd 2 (by kernel_rfl)
      have d6 : x6 = undef := hd 6 (by kernel_rfl)
      clear hd
      subst d2
      subst d6
      simp only [Act.put, List.setIfInBounds_toArray, List.set_cons_zero, List.set_cons_succ] at hK
      go_simp
      first | exact hK.out _ _ hb1 hS rfl | (have hk := hK.out _ _ hb1 hS rfl; revert hk; go_simp)
     case io12Ax8 =>
      intro k1 w1 hk0 hk1 hb1 hS hd KK hK
      have d2 : x2 = .bool false := hd 2 (by kernel_rfl)
      clear hd
      subst d2
      simp only [Act.put, List.setIfInBounds_toArray, List.set_cons_zero, List.set_cons_succ] at hK
      go_simp
      first | exact hK.out _ _ hb1 hS rfl | (have hk := hK.out _ _ hb1 hS rfl; revert hk; go_simp)
     case io12Ax9 =>
      intro k1 w1 hk0 hk1 hb1 hS hd KK hK
      have d2 : x2 = .bool false := hd 2 (by kernel_rfl)
      have d8 : x8 = undef := hd 8 (by kernel_rfl)
      clear hd
      subst d2
      subst d8
      simp only [Act.put, List.setIfInBounds_toArray, List.set_cons_zero, List.set_cons_succ] at hK
      go_simp
      first | exact hK.out _ _ hb1 hS rfl | (have hk := hK.out _ _ hb1 hS rfl; revert hk; go_simp)
     case io12Ax10 =>
      intro k1 w1 hk0 hk1 hb1 hS hd KK hK
      have d2 : x2 = .bool false := hd 2 (by kernel_rfl)
      clear hd
      subst d2
      simp only [Act.put, List.setIfInBounds_toArray, List.set_cons_zero, List.set_cons_succ] at hK
      go_simp
      first | exact hK.out _ _ hb1 hS rfl | (have hk := hK.out _ _ hb1 hS rfl; revert hk; go_simp)
     case io12Ax11 =>
      intro k1 w1 hk0 hk1 hb1 hS hd KK hK
      have d2 : x2 = .bool false := hd 2 (by kernel_rfl)
      have d9 : x9 = undef := hd 9 (by kernel_rfl)
      have d10 : x10 = undef := hd 10 (by kernel_rfl)
      clear hd
      subst d2
      subst d9
      subst d10
      simp only [Act.put, List.setIfInBounds_toArray, List.set_cons_zero, List.set_cons_succ] at hK
      go_simp
      first | exact hK.out _ _ hb1 hS rfl | (have hk := hK.out _ _ hb1 hS rfl; revert hk; go_simp)
     case io12Ax12 =>
      intro k1 w1 hk0 hk1 hb1 hS hd KK hK
      have d2 : x2 = .bool false := hd 2 (by kernel_rfl)
      have d11 : x11 = undef := hd 11 (by kernel_rfl)
      clear hd
      subst d2
      subst d11
      simp only [Act.put, List.setIfInBounds_toArray, List.set_cons_zero, List.set_cons_succ] at hK
      go_simp
      first | exact hK.out _ _ hb1 hS rfl | (have hk := hK.out _ _ hb1 hS rfl; revert hk; go_simp)
     case io12Ax13 =>
      intro k1 w1 hk0 hk1 hb1 hS hd KK hK
      have d2 : x2 = .bool false := hd 2 (by kernel_rfl)
      have d7 : x7 = undef := hd 7 (by kernel_rfl)
      have d12 : x12 = undef := hd 12 (by kernel_rfl)
      clear hd
      subst d2
      subst d7
      subst d12
      simp only [Act.put, List.setIfInBounds_toArray, List.set_cons_zero, List.set_cons_succ] at hK
      go_simp
      first | exact hK.out _ _ hb1 hS rfl | (have hk := hK.out _ _ hb1 hS rfl; revert hk; go_simp)
     case io12Ax14 =>
      intro k1 w1 hk0 hk1 hb1 hS hd KK hK
      have d2 : x2 = .bool false := hd 2 (by kernel_rfl)
      have d13 : x13 = undef := hd 13 (by kernel_rfl)
      clear hd
      subst d2
      subst d13
      simp only [Act.put, List.setIfInBounds_toArray, List.set_cons_zero, List.set_cons_succ] at hK
      go_simp
      first | exact hK.out _ _ hb1 hS rfl | (have hk := hK.out _ _ hb1 hS rfl; revert hk; go_simp)
     case io12Ax15 =>
      intro k1 w1 hk0 hk1 hb1 hS hd KK hK
      have d14 : x14 = undef := hd 14 (by kernel_rfl)
      clear hd
      subst d14
      simp only [Act.put, List.setIfInBounds_toArray, List.set_cons_zero, List.set_cons_succ] at hK
      go_simp
      first | exact hK.out _ _ hb1 hS rfl | (have hk := hK.out _ _ hb1 hS rfl; revert hk; go_simp)
     case io12Ax16 =>
      intro k1 w1 hk0 hk1 hb1 hS hd KK hK
      have d14 : x14 = undef := hd 14 (by kernel_rfl)
      have d15 : x15 = undef := hd 15 (by kernel_rfl)
      clear hd
      subst d14
      subst d15
      simp only [Act.put, List.setIfInBounds_toArray, List.set_cons_zero, List.set_cons_succ] at hK
      go_simp
      first | exact hK.out _ _ hb1 hS rfl | (have hk := hK.out _ _ hb1 hS rfl; revert hk; go_simp)
     case io12Ax17 =>
      intro k1 w1 hk0 hk1 hb1 hS hd KK hK
      have d14 : x14 = undef := hd 14 (by kernel_rfl)
      clear hd
      subst d14
      simp only [Act.put, List.setIfInBounds_toArray, List.set_cons_zero, List.set_cons_succ] at hK
      go_simp
      first | exact hK.out _ _ hb1 hS rfl | (have hk := hK.out _ _ hb1 hS rfl; revert hk; go_simp)
     case io12Ax18 =>
      intro k1 w1 hk0 hk1 hb1 hS hd KK hK
      have d14 : x14 = undef := hd 14 (by kernel_rfl)
      have d16 : x16 = undef := hd 16 (by kernel_rfl)
      have d17 : x17 = undef := hd 17 (by kernel_rfl)
      clear hd
      subst d14
      subst d16
      subst d17
      simp only [Act.put, List.setIfInBounds_toArray, List.set_cons_zero, List.set_cons_succ] at hK
      go_simp
      first | exact hK.out _ _ hb1 hS rfl | (have hk := hK.out _ _ hb1 hS rfl; revert hk; go_simp)
     case io12Ax19 =>
      intro k1 w1 hk0 hk1 hb1 hS hd KK hK
      have d14 : x14 = undef := hd 14 (by kernel_rfl)
      have d18 : x18 = undef := hd 18 (by kernel_rfl)
      clear hd
      subst d14
      subst d18
      simp only [Act.put, List.setIfInBounds_toArray, List.set_cons_zero, List.set_cons_succ] at hK
      go_simp
      first | exact hK.out _ _ hb1 hS rfl | (have hk := hK.out _ _ hb1 hS rfl; revert hk; go_simp)
     case io12Ax20 =>
      intro k1 w1 hk0 hk1 hb1 hS hd KK hK
      have d14 : x14 = undef := hd 14 (by kernel_rfl)
      clear hd
      subst d14
      simp only [Act.put, List.setIfInBounds_toArray, List.set_cons_zero, List.set_cons_succ] at hK
      go_simp
      first | exact hK.out _ _ hb1 hS rfl | (have hk := hK.out _ _ hb1 hS rfl; revert hk; go_simp)
     case io12Ax21 =>
      intro k1 w1 hk0 hk1 hb1 hS hd KK hK
      have d14 : x14 = undef := hd 14 (by kernel_rfl)
      have d20 : x20 = undef := hd 20 (by kernel_rfl)
      clear hd
      subst d14
      subst d20
      simp only [Act.put, List.setIfInBounds_toArray, List.set_cons_zero, List.set_cons_succ] at hK
      go_simp
      first | exact hK.out _ _ hb1 hS rfl | (have hk := hK.out _ _ hb1 hS rfl; revert hk; go_simp)
     case io12Ax22 =>
      intro k1 w1 hk0 hk1 hb1 hS hd KK hK
      have d14 : x14 = undef := hd 14 (by kernel_rfl)
      clear hd
      subst d14
      simp only [Act.put, List.setIfInBounds_toArray, List.set_cons_zero, List.set_cons_succ] at hK
      go_simp
      first | exact hK.out _ _ hb1 hS rfl | (have hk := hK.out _ _ hb1 hS rfl; revert hk; go_simp)
     case io12Ax23 =>
      intro k1 w1 hk0 hk1 hb1 hS hd KK hK
      have d14 : x14 = undef := hd 14 (by kernel_rfl)
      have d21 : x21 = undef := hd 21 (by kernel_rfl)
      have d22 : x22 = undef := hd 22 (by kernel_rfl)
      clear hd
      subst d14
      subst d21
      subst d22
      simp only [Act.put, List.setIfInBounds_toArray, List.set_cons_zero, List.set_cons_succ] at hK
      go_simp
      first | exact hK.out _ _ hb1 hS rfl | (have hk := hK.out _ _ hb1 hS rfl; revert hk; go_simp)
     case io12Ax24 =>
      intro k1 w1 hk0 hk1 hb1 hS hd KK hK
      have d14 : x14 = undef := hd 14 (by kernel_rfl)
      have d23 : x23 = undef := hd 23 (by kernel_rfl)
      clear hd
      subst d14
      subst d23
      simp only [Act.put, List.setIfInBounds_toArray, List.set_cons_zero, List.set_cons_succ] at hK
      go_simp
      first | exact hK.out _ _ hb1 hS rfl | (have hk := hK.out _ _ hb1 hS rfl; revert hk; go_simp)
     case io12Ax25 =>
      intro k1 w1 hk0 hk1 hb1 hS hd KK hK
      have d14 : x14 = undef := hd 14 (by kernel_rfl)
      have d19 : x19 = undef := hd 19 (by kernel_rfl)
      have d24 : x24 = undef := hd 24 (by kernel_rfl)
      clear hd
      subst d14
      subst d19
      subst d24
      simp only [Act.put, List.setIfInBounds_toArray, List.set_cons_zero, List.set_cons_succ] at hK
      go_simp
      first | exact hK.out _ _ hb1 hS rfl | (have hk := hK.out _ _ hb1 hS rfl; revert hk; go_simp)
     case io12Ax26 =>
      intro k1 w1 hk0 hk1 hb1 hS hd KK hK
      have d14 : x14 = undef := hd 14 (by kernel_rfl)
      have d25 : x25 = undef := hd 25 (by kernel_rfl)
      clear hd
      subst d14
      subst d25
      simp only [Act.put, List.setIfInBounds_toArray, List.set_cons_zero, List.set_cons_succ] at hK
      go_simp
      first | exact hK.out _ _ hb1 hS rfl | (have hk := hK.out _ _ hb1 hS rfl; revert hk; go_simp)
     case io12Ax27 =>
      intro k1 w1 hk0 hk1 hb1 hS hd KK hK
      have d26 : x26 = undef := hd 26 (by kernel_rfl)
      clear hd
      subst d26
      simp only [Act.put, List.setIfInBounds_toArray, List.set_cons_zero, List.set_cons_succ] at hK
      go_simp
      first | exact hK.out _ _ hb1 hS rfl | (have hk := hK.out _ _ hb1 hS rfl; revert hk; go_simp)
     case io12Ax28 =>
      intro k1 w1 hk0 hk1 hb1 hS hd KK hK
      have d26 : x26 = undef := hd 26 (by kernel_rfl)
      clear hd
      subst d26
      simp only [Act.put, List.setIfInBounds_toArray, List.set_cons_zero, List.set_cons_succ] at hK
      go_simp
      first | exact hK.out _ _ hb1 hS rfl | (have hk := hK.out _ _ hb1 hS rfl; revert hk; go_simp)
     case io12Ax29 =>
      intro k1 w1 hk0 hk1 hb1 hS hd KK hK
      have d26 : x26 = undef := hd 26 (by kernel_rfl)
      have d27 : x27 = undef := hd 27 (by kernel_rfl)
      have d28 : x28 = undef := hd 28 (by kernel_rfl)
      clear hd
      subst d26
      subst d27
      subst d28
      simp only [Act.put, List.setIfInBounds_toArray, List.set_cons_zero, List.set_cons_succ] at hK
      go_simp
      first | exact hK.out _ _ hb1 hS rfl | (have hk := hK.out _ _ hb1 hS rfl; revert hk; go_simp)
     case io12Ax30 =>
      intro k1 w1 hk0 hk1 hb1 hS hd KK hK
      have d14 : x14 = undef := hd 14 (by kernel_rfl)
      have d26 : x26 = undef := hd 26 (by kernel_rfl)
      have d29 : x29 = undef := hd 29 (by kernel_rfl)
      clear hd
      subst d14
      subst d26
      subst d29
      simp only [Act.put, List.setIfInBounds_toArray, List.set_cons_zero, List.set_cons_succ] at hK
      go_simp
      first | exact hK.out _ _ hb1 hS rfl | (have hk := hK.out _ _ hb1 hS rfl; revert hk; go_simp)
     case io12Ax31 =>
      intro k1 w1 hk0 hk1 hb1 hS hd KK hK
      have d2 : x2 = .bool false := hd 2 (by kernel_rfl)
      have d14 : x14 = undef := hd 14 (by kernel_rfl)
      have d30 : x30 = undef := hd 30 (by kernel_rfl)
      clear hd
      subst d2
      subst d14
      subst d30
      simp only [Act.put, List.setIfInBounds_toArray, List.set_cons_zero, List.set_cons_succ] at hK
      go_simp
      first | exact hK.out _ _ hb1 hS rfl | (have hk := hK.out _ _ hb1 hS rfl; revert hk; go_simp)
     case io12Ax32 =>
      intro k1 w1 hk0 hk1 hb1 hS hd KK hK
      have d2 : x2 = .bool false := hd 2 (by kernel_rfl)
      have d31 : x31 = undef := hd 31 (by kernel_rfl)
      clear hd
      subst d2
      subst d31
      simp only [Act.put, List.setIfInBounds_toArray, List.set_cons_zero, List.set_cons_succ] at hK
      go_simp
      first | exact hK.out _ _ hb1 hS rfl | (have hk := hK.out _ _ hb1 hS rfl; revert hk; go_simp)
     case iend12A =>
      intro w1 hb1 hS hR
      have d0 : x0 = .int .i64 pb := hR 0 (by decide)
      have d1 : x1 = .bool false := hR 1 (by decide)
      have d2 : x2 = .bool false := hR 2 (by decide)
      have d3 : x3 = undef := hR 3 (by decide)
      have d4 : x4 = undef := hR 4 (by decide)
      have d5 : x5 = undef := hR 5 (by decide)
      have d6 : x6 = undef := hR 6 (by decide)
      have d7 : x7 = undef := hR 7 (by decide)
      have d8 : x8 = undef := hR 8 (by decide)
      have d9 : x9 = undef := hR 9 (by decide)
      have d10 : x10 = undef := hR 10 (by decide)
      have d11 : x11 = undef := hR 11 (by decide)
      have d12 : x12 = undef := hR 12 (by decide)
      have d13 : x13 = undef := hR 13 (by decide)
      have d14 : x14 = undef := hR 14 (by decide)
      have d15 : x15 = undef := hR 15 (by decide)
      have d16 : x16 = undef := hR 16 (by decide)
      have d17 : x17 = undef := hR 17 (by decide)
      have d18 : x18 = undef := hR 18 (by decide)
      have d19 : x19 = undef := hR 19 (by decide)
      have d20 : x20 = undef := hR 20 (by decide)
      have d21 : x21 = undef := hR 21 (by decide)
      have d22 : x22 = undef := hR 22 (by decide)
      have d23 : x23 = undef := hR 23 (by decide)
      have d24 : x24 = undef := hR 24 (by decide)
      have d25 : x25 = undef := hR 25 (by decide)
      have d26 : x26 = undef := hR 26 (by decide)
      have d27 : x27 = undef := hR 27 (by decide)
      have d28 : x28 = undef := hR 28 (by decide)
      have d29 : x29 = undef := hR 29 (by decide)
      have d30 : x30 = undef := hR 30 (by decide)
      have d31 : x31 = undef := hR 31 (by decide)
      have d32 : x32 = .bool false := hR 32 (by decide)
      clear hR
      subst d0
      subst d1
      subst d2
      subst d3
      subst d4
      subst d5
      subst d6
      subst d7
      subst d8
      subst d9
      subst d10
      subst d11
      subst d12
      subst d13
      subst d14
      subst d15
      subst d16
      subst d17
      subst d18
      subst d19
      subst d20
      subst d21
      subst d22
      subst d23
      subst d24
      subst d25
      subst d26
      subst d27
      subst d28
      subst d29
      subst d30
      subst d31
      subst d32
      try simp only [putAll, Act.put, List.setIfInBounds_toArray, List.set_cons_zero, List.set_cons_succ]
      have G2 := Lib.hid hS
      have HK2 := Lib.hid (HKP.out.trans hb1)
      clear hS hb1 G1
      obtain ⟨V2, rfl⟩ : ∃ x : World, x = w1 := ⟨_, rfl⟩
      have q0 := G2.out.c 4 0 rfl rfl
      have qf0 := G2.out.f 4 0 rfl rfl
      (repeat gi_step)
      have G2b := G2.out.set 4 rfl (by simp) [.int .i64 (pz : Int)] rfl
      simp only [setL, Nat.reduceAdd, List.set_cons_zero, List.set_cons_succ] at G2b
      have G3 := G2b.putM 0 rfl (.loop (R .ready none)) rfl
      have HK3 := Lib.hid ((HK2.out.trans (Kept.of_grown (row := some Yb) (Go.Lib.grownBy_setCell V2 Yb 0 (.int .i64 (pz : Int))) (fun e he => by injection he with he; have := HJ.out.bB _ (List.mem_of_getElem? (i := 4) rfl); omega))).trans (Kept.putObj (D + 2) _ (D + 1) (.loop (R .ready none)) (by omega)))
      simp only [List.set_cons_zero, List.set_cons_succ] at G3
      have hj := HJ.out
      have e := HPK.out
      have e2 : bst ys pb (pz : Int) = (pz : Int) := by unfold bst yAt; rw [if_neg (by omega)]
      rw [e2] at e
      rw [e]
      refine ⟨G2b.m 0 rfl, HK3.out, ?_⟩
      exact ⟨G3, hj.lS, by have h9 := HK3.out.1; have h8 := hj.sz; exact Nat.le_trans h8 h9, by have h9 := hj.bB; simp only [List.mem_cons, List.not_mem_nil, or_false, forall_eq_or_imp, forall_eq] at h9 ⊢; exact h9, hj.bO, by have h9 := hj.bM; simp only [List.mem_cons, forall_eq_or_imp] at h9 ⊢; exact h9⟩
    ·skip
     obtain ⟨bn, hbn0⟩ : ∃ z : Nat, pb = (z : Int) := ⟨pb.toNat, by omega⟩
     subst hbn0
     have hbn : bn < ys.length := by omega
     obtain ⟨yb, hyb⟩ : ∃ x, ys[bn]?.getD 0 = x := ⟨_, rfl⟩
     have HYB := Lib.hid hyb
     have DB := Lib.hid (decide_eq_true (by omega : (0 : Int) ≤ (bn : Int)))
     have hpzi : (pz : Int) < (ys.length : Int) := by omega
     have hbni : (bn : Int) < (ys.length : Int) := by omega
     clear hyb hpb0 hpbb
     by_cases hlt2 : yp < yb
     ·skip
      have DL := Lib.hid (decide_eq_true hlt2)
      refine wpIn_region_inv (w := V) 33 (fun _ W2 => Kept (D + 2) V W2) (fun _ W => Fr w.heap.size w W [(w.heap.size, [.slice (some ⟨b0, o0, none⟩) xs.length c, .slice (some ⟨gy, oy, none⟩) ys.length d]), (w.heap.size + 1, [.slice aK wv.K.length cK, .slice aS wv.S.length cS, .slice aP wv.P.length cP, .slice aD wv.D.length cD]), (w.heap.size + 1 + 1, [.slice as_ S.length cs_, .slice (some ⟨gd, 0, none⟩) NN dd]), (Y7, [.slice (some ⟨b0, o0 + 2, none⟩) wv.L.length cL, .slice aK wv.K.length cK, .slice aO wv.O.length cO, .slice aK wv.K.length cK, .slice aS wv.S.length cS, .slice aP wv.P.length cP, .slice aD wv.D.length cD]), (Yb, [.int .i64 (bn : Int)]), (X1, [.slice (some ⟨b0, o0 + 2, none⟩) wv.L.length cL, .slice aK wv.K.length cK, .slice aO wv.O.length cO, .slice aK wv.K.length cK, .slice aS wv.S.length cS, .slice aP wv.P.length cP, .slice aD wv.D.length cD]), (X1 + 1, [.int .i64 (n : Int)]), (X1 + 1 + 1, [.int .i64 (M : Int)])] [(.i64, (some ⟨b0, o0, none⟩), xs), (.i64, (some ⟨gy, oy, none⟩), ys), (.i64, aK, wv.K), (.i64, aS, wv.S), (.i64, aP, wv.P), (.i64, aD, wv.D), (.i64, (some ⟨b0, o0 + 2, none⟩), wv.L)] [⟨3, .slice aO wv.O.length cO, wv.O.length, wv.O.map (Value.int .i64)⟩, ⟨3, .slice as1 S.length cs1, S.length, S.map (Value.int .i64)⟩, ⟨3, .slice as_ S.length cs_, S.length, S.map (Value.int .i64)⟩, ⟨2, .slice (some ⟨gd, 0, none⟩) NN dd, NN, LD⟩, ⟨3, .slice (some ⟨gp, 0, none⟩) NN NN, NN, LP⟩] ((D + 1, .loop (R .busy none)) :: (D, .deferred (some [])) :: mkM Ds)) [] [(fun u _ => u = .int .i64 (bn : Int)), (fun u _ => u = .bool true), (fun u _ => u = .bool true), (fun u _ => u = .pointer (some ⟨w.heap.size, 1, none⟩)), (fun u _ => u = .slice (some ⟨gy, oy, none⟩) ys.length d), (fun u _ => u = .int .i64 (pz : Int)), (fun u _ => u = .pointer (some ⟨gy, oy + pz, none⟩)), (fun u _ => u = .int .i64 yp), (fun u _ => u = .pointer (some ⟨w.heap.size, 1, none⟩)), (fun u _ => u = .slice (some ⟨gy, oy, none⟩) ys.length d), (fun u _ => u = .int .i64 (bn : Int)), (fun u _ => u = .pointer (some ⟨gy, oy + bn, none⟩)), (fun u _ => u = .int .i64 yb), (fun u _ => u = .bool true), (fun u _ => u = .bool true), (fun u _ => u = undef), (fun u _ => u = undef), (fun u _ => u = undef), (fun u _ => u = undef), (fun u _ => u = undef), (fun u _ => u = undef), (fun u _ => u = undef), (fun u _ => u = undef), (fun u _ => u = undef), (fun u _ => u = undef), (fun u _ => u = undef), (fun u _ => u = undef), (fun u _ => u = undef), (fun u _ => u = undef), (fun u _ => u = undef), (fun u _ => u = undef), (fun u _ => u = .bool true), (fun u _ => u = .bool true)] [some 39, some 40, some 41, some 42, some 43, some 44, some 45, some 46, some 47, some 48, some 49, some 50, some 51, some 52, some 53, some 54, some 55, some 56, some 57, some 58, some 59, some 60, some 61, some 62, some 63, some 64, some 65, some 66, some 67, some 68, some 69, some 70, some 71] (by kernel_rfl) (by kernel_rfl) rfl (by kernel_rfl) (by kernel_rfl) (by decide) (by decide) (fun _ h => h) (Kept.of_below (Below.drew (Below.refl _ _))) G1.out.drew (BorneAll.at (.cons (borne_eq _) (.cons (borne_eq _) (.cons (borne_eq _) (.cons (borne_eq _) (.cons (borne_eq _) (.cons (borne_eq _) (.cons (borne_eq _) (.cons (borne_eq _) (.cons (borne_eq _) (.cons (borne_eq _) (.cons (borne_eq _) (.cons (borne_eq _) (.cons (borne_eq _) (.cons (borne_eq _) (.cons (borne_eq _) (.cons (borne_eq _) (.cons (borne_eq _) (.cons (borne_eq _) (.cons (borne_eq _) (.cons (borne_eq _) (.cons (borne_eq _) (.cons (borne_eq _) (.cons (borne_eq _) (.cons (borne_eq _) (.cons (borne_eq _) (.cons (borne_eq _) (.cons (borne_eq _) (.cons (borne_eq _) (.cons (borne_eq _) (.cons (borne_eq _) (.cons (borne_eq _) (.cons (borne_eq _) (.cons (borne_eq _) .nil)))))))))))))))))))))))))))))))))) (fun vs b hvl hvb => ?_)
      obtain ⟨x0, x1, x2, x3, x4, x5, x6, x7, x8, x9, x10, x11, x12, x13, x14, x15, x16, x17, x18, x19, x20, x21, x22, x23, x24, x25, x26, x27, x28, x29, x30, x31, x32, rfl⟩ : ∃ x0 x1 x2 x3 x4 x5 x6 x7 x8 x9 x10 x11 x12 x13 x14 x15 x16 x17 x18 x19 x20 x21 x22 x23 x24 x25 x26 x27 x28 x29 x30 x31 x32, vs = [x0, x1, x2, x3, x4, x5, x6, x7, x8, x9, x10, x11, x12, x13, x14, x15, x16, x17, x18, x19, x20, x21, x22, x23, x24, x25, x26, x27, x28, x29, x30, x31, x32] := lw33 hvl
      clear hvl
      simp only [putAll, Act.put, List.setIfInBounds_toArray, List.set_cons_zero, List.set_cons_succ] at hvb
      subst hvb
      refine ⟨(.snoc (.snoc (.snoc (.snoc (.snoc (.snoc (.snoc (.snoc (.snoc (.snoc (.snoc (.snoc (.snoc (.snoc (.snoc (.snoc (.snoc (.snoc (.snoc (.snoc (.snoc (.snoc (.snoc (.snoc (.snoc (.snoc (.snoc (.snoc (.snoc (.snoc (.snoc (.snoc (.snoc .zero (InvObIn.intro (d := (some 39)) (r := fun u _ => u = .int .i64 (bn : Int)) 0 0 rfl rfl rfl (by kernel_rfl) (by kernel_rfl) rfl ?io12Bx0)) (InvObIn.intro (d := (some 40)) (r := fun u _ => u = .bool true) 0 0 rfl rfl rfl (by kernel_rfl) (by kernel_rfl) rfl ?io12Bx1)) (InvObIn.intro (d := (some 41)) (r := fun u _ => u = .bool true) 0 0 rfl rfl rfl (by kernel_rfl) (by kernel_rfl) rfl ?io12Bx2)) (InvObIn.intro (d := (some 42)) (r := fun u _ => u = .pointer (some ⟨w.heap.size, 1, none⟩)) 0 0 rfl rfl rfl (by kernel_rfl) (by kernel_rfl) rfl ?io12Bx3)) (InvObIn.intro (d := (some 43)) (r := fun u _ => u = .slice (some ⟨gy, oy, none⟩) ys.length d) 0 0 rfl rfl rfl (by kernel_rfl) (by kernel_rfl) rfl ?io12Bx4)) (InvObIn.intro (d := (some 44)) (r := fun u _ => u = .int .i64 (pz : Int)) 0 0 rfl rfl rfl (by kernel_rfl) (by kernel_rfl) rfl ?io12Bx5)) (InvObIn.intro (d := (some 45)) (r := fun u _ => u = .pointer (some ⟨gy, oy + pz, none⟩)) 0 0 rfl rfl rfl (by kernel_rfl) (by kernel_rfl) rfl ?io12Bx6)) (InvObIn.intro (d := (some 46)) (r := fun u _ => u = .int .i64 yp) 0 0 rfl rfl rfl (by kernel_rfl) (by kernel_rfl) rfl ?io12Bx7)) (InvObIn.intro (d := (some 47)) (r := fun u _ => u = .pointer (some ⟨w.heap.size, 1, none⟩)) 0 0 rfl rfl rfl (by kernel_rfl) (by kernel_rfl) rfl ?io12Bx8)) (InvObIn.intro (d := (some 48)) (r := fun u _ => u = .slice (some ⟨gy, oy, none⟩) ys.length d) 0 0 rfl rfl rfl (by kernel_rfl) (by kernel_rfl) rfl ?io12Bx9)) (InvObIn.intro (d := (some 49)) (r := fun u _ => u = .int .i64 (bn : Int)) 0 0 rfl rfl rfl (by kernel_rfl) (by kernel_rfl) rfl ?io12Bx10)) (InvObIn.intro (d := (some 50)) (r := fun u _ => u = .pointer (some ⟨gy, oy + bn, none⟩)) 0 0 rfl rfl rfl (by kernel_rfl) (by kernel_rfl) rfl ?io12Bx11)) (InvObIn.intro (d := (some 51)) (r := fun u _ => u = .int .i64 yb) 0 0 rfl rfl rfl (by kernel_rfl) (by kernel_rfl) rfl ?io12Bx12)) (InvObIn.intro (d := (some 52)) (r := fun u _ => u = .bool true) 0 0 rfl rfl rfl (by kernel_rfl) (by kernel_rfl) rfl ?io12Bx13)) (InvObIn.intro (d := (some 53)) (r := fun u _ => u = .bool true) 0 0 rfl rfl rfl (by kernel_rfl) (by kernel_rfl) rfl ?io12Bx14)) (InvObIn.intro (d := (some 54)) (r := fun u _ => u = undef) 0 0 rfl rfl rfl (by kernel_rfl) (by kernel_rfl) rfl ?io12Bx15)) (InvObIn.intro (d := (some 55)) (r := fun u _ => u = undef) 0 0 rfl rfl rfl (by kernel_rfl) (by kernel_rfl) rfl ?io12Bx16)) (InvObIn.intro (d := (some 56)) (r := fun u _ => u = undef) 0 0 rfl rfl rfl (by kernel_rfl) (by kernel_rfl) rfl ?io12Bx17)) (InvObIn.intro (d := (some 57)) (r := fun u _ => u = undef) 0 0 rfl rfl rfl (by kernel_rfl) (by kernel_rfl) rfl ?io12Bx18)) (InvObIn.intro (d := (some 58)) (r := fun u _ => u = undef) 0 0 rfl rfl rfl (by kernel_rfl) (by kernel_rfl) rfl ?io12Bx19)) (InvObIn.intro (d := (some 59)) (r := fun u _ => u = undef) 0 0 rfl rfl rfl (by kernel_rfl) (by kernel_rfl) rfl ?io12Bx20)) (InvObIn.intro (d := (some 60)) (r := fun u _ => u = undef) 0 0 rfl rfl rfl (by kernel_rfl) (by kernel_rfl) rfl ?io12Bx21)) (InvObIn.intro (d := (some 61)) (r := fun u _ => u = undef) 0 0 rfl rfl rfl (by kernel_rfl) (by kernel_rfl) rfl ?io12Bx22)) (InvObIn.intro (d := (some 62)) (r := fun u _ => u = undef) 0 0 rfl rfl rfl (by kernel_rfl) (by kernel_rfl) rfl ?io12Bx23)) (InvObIn.intro (d := (some 63)) (r := fun u _ => u = undef) 0 0 rfl rfl rfl (by kernel_rfl) (by kernel_rfl) rfl ?io12Bx24)) (InvObIn.intro (d := (some 64)) (r := fun u _ => u = undef) 0 0 rfl rfl rfl (by kernel_rfl) (by kernel_rfl) rfl ?io12Bx25)) (InvObIn.intro (d := (some 65)) (r := fun u _ => u = undef) 0 0 rfl rfl rfl (by kernel_rfl) (by kernel_rfl) rfl ?io12Bx26)) (InvObIn.intro (d := (some 66)) (r := fun u _ => u = undef) 0 0 rfl rfl rfl (by kernel_rfl) (by kernel_rfl) rfl ?io12Bx27)) (InvObIn.intro (d := (some 67)) (r := fun u _ => u = undef) 0 0 rfl rfl rfl (by kernel_rfl) (by kernel_rfl) rfl ?io12Bx28)) (InvObIn.intro (d := (some 68)) (r := fun u _ => u = undef) 0 0 rfl rfl rfl (by kernel_rfl) (by kernel_rfl) rfl ?io12Bx29)) (InvObIn.intro (d := (some 69)) (r := fun u _ => u = undef) 0 0 rfl rfl rfl (by kernel_rfl) (by kernel_rfl) rfl ?io12Bx30)) (InvObIn.intro (d := (some 70)) (r := fun u _ => u = .bool true) 0 0 rfl rfl rfl (by kernel_rfl) (by kernel_rfl) rfl ?io12Bx31)) (InvObIn.intro (d := (some 71)) (r := fun u _ => u = .bool true) 0 0 rfl rfl rfl (by kernel_rfl) (by kernel_rfl) rfl ?io12Bx32)), ?iend12B⟩
      case io12Bx0 =>
       intro k1 w1 hk0 hk1 hb1 hS hd KK hK
       clear hd
       have k0 := hS.c 4 0 rfl rfl
       simp only [Act.put, List.setIfInBounds_toArray, List.set_cons_zero, List.set_cons_succ] at hK
       go_simp
       first | exact hK.out _ _ hb1 hS rfl | (have hk := hK.out _ _ hb1 hS rfl; revert hk; go_simp)
      case io12Bx1 =>
       intro k1 w1 hk0 hk1 hb1 hS hd KK hK
       have d0 : x0 = .int .i64 (bn : Int) := hd 0 (by kernel_rfl)
       clear hd
       subst d0
       have dx := DB.out
       simp only [Act.put, List.setIfInBounds_toArray, List.set_cons_zero, List.set_cons_succ] at hK
       go_simp
       first | exact hK.out _ _ hb1 hS rfl | (have hk := hK.out _ _ hb1 hS rfl; revert hk; go_simp)
      case io12Bx2 =>
       intro k1 w1 hk0 hk1 hb1 hS hd KK hK
       have d1 : x1 = .bool true := hd 1 (by kernel_rfl)
       clear hd
       subst d1
       simp only [Act.put, List.setIfInBounds_toArray, List.set_cons_zero, List.set_cons_succ] at hK
       go_simp
       first | exact hK.out _ _ hb1 hS rfl | (have hk := hK.out _ _ hb1 hS rfl; revert hk; go_simp)
      case io12Bx3 =>
       intro k1 w1 hk0 hk1 hb1 hS hd KK hK
       have d2 : x2 = .bool true := hd 2 (by kernel_rfl)
       clear hd
       subst d2
       simp only [Act.put, List.setIfInBounds_toArray, List.set_cons_zero, List.set_cons_succ] at hK
       go_simp
       first | exact hK.out _ _ hb1 hS rfl | (have hk := hK.out _ _ hb1 hS rfl; revert hk; go_simp)
      case io12Bx4 =>
       intro k1 w1 hk0 hk1 hb1 hS hd KK hK
       have d2 : x2 = .bool true := hd 2 (by kernel_rfl)
       have d3 : x3 = .pointer (some ⟨w.heap.size, 1, none⟩) := hd 3 (by kernel_rfl)
       clear hd
       subst d2
       subst d3
       have k0 := hS.c 0 0 rfl rfl
       have k1 := hS.c 0 1 rfl rfl
       simp only [Act.put, List.setIfInBounds_toArray, List.set_cons_zero, List.set_cons_succ] at hK
       go_simp
       first | exact hK.out _ _ hb1 hS rfl | (have hk := hK.out _ _ hb1 hS rfl; revert hk; go_simp)
      case io12Bx5 =>
       intro k1 w1 hk0 hk1 hb1 hS hd KK hK
       have d2 : x2 = .bool true := hd 2 (by kernel_rfl)
       clear hd
       subst d2
       simp only [Act.put, List.setIfInBounds_toArray, List.set_cons_zero, List.set_cons_succ] at hK
       go_simp
       first | exact hK.out _ _ hb1 hS rfl | (have hk := hK.out _ _ hb1 hS rfl; revert hk; go_simp)
      case io12Bx6 =>
       intro k1 w1 hk0 hk1 hb1 hS hd KK hK
       have d2 : x2 = .bool true := hd 2 (by kernel_rfl)
       have d4 : x4 = .slice (some ⟨gy, oy, none⟩) ys.length d := hd 4 (by kernel_rfl)
       have d5 : x5 = .int .i64 (pz : Int) := hd 5 (by kernel_rfl)
       clear hd
       subst d2
       subst d4
       subst d5
       simp only [Act.put, List.setIfInBounds_toArray, List.set_cons_zero, List.set_cons_succ] at hK
       go_simp
       first | exact hK.out _ _ hb1 hS rfl | (have hk := hK.out _ _ hb1 hS rfl; revert hk; go_simp)
      case io12Bx7 =>
       intro k1 w1 hk0 hk1 hb1 hS hd KK hK
       have d2 : x2 = .bool true := hd 2 (by kernel_rfl)
       have d6 : x6 = .pointer (some ⟨gy, oy + pz, none⟩) := hd 6 (by kernel_rfl)
       clear hd
       subst d2
       subst d6
       obtain ⟨b9, o9, he, _, hcx⟩ := (hS.l 1 rfl).cell pz hpz1
       cases he
       rw [HYP.out] at hcx
       simp only [Act.put, List.setIfInBounds_toArray, List.set_cons_zero, List.set_cons_succ] at hK
       go_simp
       first | exact hK.out _ _ hb1 hS rfl | (have hk := hK.out _ _ hb1 hS rfl; revert hk; go_simp)
      case io12Bx8 =>
       intro k1 w1 hk0 hk1 hb1 hS hd KK hK
       have d2 : x2 = .bool true := hd 2 (by kernel_rfl)
       clear hd
       subst d2
       simp only [Act.put, List.setIfInBounds_toArray, List.set_cons_zero, List.set_cons_succ] at hK
       go_simp
       first | exact hK.out _ _ hb1 hS rfl | (have hk := hK.out _ _ hb1 hS rfl; revert hk; go_simp)
      case io12Bx9 =>
       intro k1 w1 hk0 hk1 hb1 hS hd KK hK
       have d2 : x2 = .bool true := hd 2 (by kernel_rfl)
       have d8 : x8 = .pointer (some ⟨w.heap.size, 1, none⟩) := hd 8 (by kernel_rfl)
       clear hd
       subst d2
       subst d8
       have k0 := hS.c 0 0 rfl rfl
       have k1 := hS.c 0 1 rfl rfl
       simp only [Act.put, List.setIfInBounds_toArray, List.set_cons_zero, List.set_cons_succ] at hK
       go_simp
       first | exact hK.out _ _ hb1 hS rfl | (have hk := hK.out _ _ hb1 hS rfl; revert hk; go_simp)
      case io12Bx10 =>
       intro k1 w1 hk0 hk1 hb1 hS hd KK hK
       have d2 : x2 = .bool true := hd 2 (by kernel_rfl)
       clear hd
       subst d2
       have k0 := hS.c 4 0 rfl rfl
       simp only [Act.put, List.setIfInBounds_toArray, List.set_cons_zero, List.set_cons_succ] at hK
       go_simp
       first | exact hK.out _ _ hb1 hS rfl | (have hk := hK.out _ _ hb1 hS rfl; revert hk; go_simp)
      case io12Bx11 =>
       intro k1 w1 hk0 hk1 hb1 hS hd KK hK
       have d2 : x2 = .bool true := hd 2 (by kernel_rfl)
       have d9 : x9 = .slice (some ⟨gy, oy, none⟩) ys.length d := hd 9 (by kernel_rfl)
       have d10 : x10 = .int .i64 (bn : Int) := hd 10 (by kernel_rfl)
       clear hd
       subst d2
       subst d9
       subst d10
       simp only [Act.put, List.setIfInBounds_toArray, List.set_cons_zero, List.set_cons_succ] at hK
       go_simp
       first | exact hK.out _ _ hb1 hS rfl | (have hk := hK.out _ _ hb1 hS rfl; revert hk; go_simp)
      case io12Bx12 =>
       intro k1 w1 hk0 hk1 hb1 hS hd KK hK
       have d2 : x2 = .bool true := hd 2 (by kernel_rfl)
       have d11 : x11 = .pointer (some ⟨gy, oy + bn, none⟩) := hd 11 (by kernel_rfl)
       clear hd
       subst d2
       subst d11
       obtain ⟨b9, o9, he, _, hcx⟩ := (hS.l 1 rfl).cell bn hbn
       cases he
       rw [HYB.out] at hcx
       simp only [Act.put, List.setIfInBounds_toArray, List.set_cons_zero, List.set_cons_succ] at hK
       go_simp
       first | exact hK.out _ _ hb1 hS rfl | (have hk := hK.out _ _ hb1 hS rfl; revert hk; go_simp)
      case io12Bx13 =>
       intro k1 w1 hk0 hk1 hb1 hS hd KK hK
       have d2 : x2 = .bool true := hd 2 (by kernel_rfl)
       have d7 : x7 = .int .i64 yp := hd 7 (by kernel_rfl)
       have d12 : x12 = .int .i64 yb := hd 12 (by kernel_rfl)
       clear hd
       subst d2
       subst d7
       subst d12
       have dx := DL.out
       simp only [Act.put, List.setIfInBounds_toArray, List.set_cons_zero, List.set_cons_succ] at hK
       go_simp
       first | exact hK.out _ _ hb1 hS rfl | (have hk := hK.out _ _ hb1 hS rfl; revert hk; go_simp)
      case io12Bx14 =>
       intro k1 w1 hk0 hk1 hb1 hS hd KK hK
       have d2 : x2 = .bool true := hd 2 (by kernel_rfl)
       have d13 : x13 = .bool true := hd 13 (by kernel_rfl)
       clear hd
       subst d2
       subst d13
       simp only [Act.put, List.setIfInBounds_toArray, List.set_cons_zero, List.set_cons_succ] at hK
       go_simp
       first | exact hK.out _ _ hb1 hS rfl | (have hk := hK.out _ _ hb1 hS rfl; revert hk; go_simp)
      case io12Bx15 =>
       intro k1 w1 hk0 hk1 hb1 hS hd KK hK
       have d14 : x14 = .bool true := hd 14 (by kernel_rfl)
       clear hd
       subst d14
       simp only [Act.put, List.setIfInBounds_toArray, List.set_cons_zero, List.set_cons_succ] at hK
       go_simp
       first | exact hK.out _ _ hb1 hS rfl | (have hk := hK.out _ _ hb1 hS rfl; revert hk; go_simp)
      case io12Bx16 =>
       intro k1 w1 hk0 hk1 hb1 hS hd KK hK
       have d14 : x14 = .bool true := hd 14 (by kernel_rfl)
       have d15 : x15 = undef := hd 15 (by kernel_rfl)
       clear hd
       subst d14
       subst d15
       simp only [Act.put, List.setIfInBounds_toArray, List.set_cons_zero, List.set_cons_succ] at hK
       go_simp
       first | exact hK.out _ _ hb1 hS rfl | (have hk := hK.out _ _ hb1 hS rfl; revert hk; go_simp)
      case io12Bx17 =>
       intro k1 w1 hk0 hk1 hb1 hS hd KK hK
       have d14 : x14 = .bool true := hd 14 (by kernel_rfl)
       clear hd
       subst d14
       simp only [Act.put, List.setIfInBounds_toArray, List.set_cons_zero, List.set_cons_succ] at hK
       go_simp
       first | exact hK.out _ _ hb1 hS rfl | (have hk := hK.out _ _ hb1 hS rfl; revert hk; go_simp)
      case io12Bx18 =>
       intro k1 w1 hk0 hk1 hb1 hS hd KK hK
       have d14 : x14 = .bool true := hd 14 (by kernel_rfl)
       have d16 : x16 = undef := hd 16 (by kernel_rfl)
       have d17 : x17 = undef := hd 17 (by kernel_rfl)
       clear hd
       subst d14
       subst d16
       subst d17
       simp only [Act.put, List.setIfInBounds_toArray, List.set_cons_zero, List.set_cons_succ] at hK
       go_simp
       first | exact hK.out _ _ hb1 hS rfl | (have hk := hK.out _ _ hb1 hS rfl; revert hk; go_simp)
      case io12Bx19 =>
       intro k1 w1 hk0 hk1 hb1 hS hd KK hK
       have d14 : x14 = .bool true := hd 14 (by kernel_rfl)
       have d18 : x18 = undef := hd 18 (by kernel_rfl)
       clear hd
       subst d14
       subst d18
       simp only [Act.put, List.setIfInBounds_toArray, List.set_cons_zero, List.set_cons_succ] at hK
       go_simp
       first | exact hK.out _ _ hb1 hS rfl | (have hk := hK.out _ _ hb1 hS rfl; revert hk; go_simp)
      case io12Bx20 =>
       intro k1 w1 hk0 hk1 hb1 hS hd KK hK
       have d14 : x14 = .bool true := hd 14 (by kernel_rfl)
       clear hd
       subst d14
       simp only [Act.put, List.setIfInBounds_toArray, List.set_cons_zero, List.set_cons_succ] at hK
       go_simp
       first | exact hK.out _ _ hb1 hS rfl | (have hk := hK.out _ _ hb1 hS rfl; revert hk; go_simp)
      case io12Bx21 =>
       intro k1 w1 hk0 hk1 hb1 hS hd KK hK
       have d14 : x14 = .bool true := hd 14 (by kernel_rfl)
       have d20 : x20 = undef := hd 20 (by kernel_rfl)
       clear hd
       subst d14
       subst d20
       simp only [Act.put, List.setIfInBounds_toArray, List.set_cons_zero, List.set_cons_succ] at hK
       go_simp
       first | exact hK.out _ _ hb1 hS rfl | (have hk := hK.out _ _ hb1 hS rfl; revert hk; go_simp)
      case io12Bx22 =>
       intro k1 w1 hk0 hk1 hb1 hS hd KK hK
       have d14 : x14 = .bool true := hd 14 (by kernel_rfl)
       clear hd
       subst d14
       simp only [Act.put, List.setIfInBounds_toArray, List.set_cons_zero, List.set_cons_succ] at hK
       go_simp
       first | exact hK.out _ _ hb1 hS rfl | (have hk := hK.out _ _ hb1 hS rfl; revert hk; go_simp)
      case io12Bx23 =>
       intro k1 w1 hk0 hk1 hb1 hS hd KK hK
       have d14 : x14 = .bool true := hd 14 (by kernel_rfl)
       have d21 : x21 = undef := hd 21 (by kernel_rfl)
       have d22 : x22 = undef := hd 22 (by kernel_rfl)
       clear hd
       subst d14
       subst d21
       subst d22
       simp only [Act.put, List.setIfInBounds_toArray, List.set_cons_zero, List.set_cons_succ] at hK
       go_simp
       first | exact hK.out _ _ hb1 hS rfl | (have hk := hK.out _ _ hb1 hS rfl; revert hk; go_simp)
      case io12Bx24 =>
       intro k1 w1 hk0 hk1 hb1 hS hd KK hK
       have d14 : x14 = .bool true := hd 14 (by kernel_rfl)
       have d23 : x23 = undef := hd 23 (by kernel_rfl)
       clear hd
       subst d14
       subst d23
       simp only [Act.put, List.setIfInBounds_toArray, List.set_cons_zero, List.set_cons_succ] at hK
       go_simp
       first | exact hK.out _ _ hb1 hS rfl | (have hk := hK.out _ _ hb1 hS rfl; revert hk; go_simp)
      case io12Bx25 =>
       intro k1 w1 hk0 hk1 hb1 hS hd KK hK
       have d14 : x14 = .bool true := hd 14 (by kernel_rfl)
       have d19 : x19 = undef := hd 19 (by kernel_rfl)
       have d24 : x24 = undef := hd 24 (by kernel_rfl)
       clear hd
       subst d14
       subst d19
       subst d24
       simp only [Act.put, List.setIfInBounds_toArray, List.set_cons_zero, List.set_cons_succ] at hK
       go_simp
       first | exact hK.out _ _ hb1 hS rfl | (have hk := hK.out _ _ hb1 hS rfl; revert hk; go_simp)
      case io12Bx26 =>
       intro k1 w1 hk0 hk1 hb1 hS hd KK hK
       have d14 : x14 = .bool true := hd 14 (by kernel_rfl)
       have d25 : x25 = undef := hd 25 (by kernel_rfl)
       clear hd
       subst d14
       subst d25
       simp only [Act.put, List.setIfInBounds_toArray, List.set_cons_zero, List.set_cons_succ] at hK
       go_simp
       first | exact hK.out _ _ hb1 hS rfl | (have hk := hK.out _ _ hb1 hS rfl; revert hk; go_simp)
      case io12Bx27 =>
       intro k1 w1 hk0 hk1 hb1 hS hd KK hK
       have d26 : x26 = undef := hd 26 (by kernel_rfl)
       clear hd
       subst d26
       simp only [Act.put, List.setIfInBounds_toArray, List.set_cons_zero, List.set_cons_succ] at hK
       go_simp
       first | exact hK.out _ _ hb1 hS rfl | (have hk := hK.out _ _ hb1 hS rfl; revert hk; go_simp)
      case io12Bx28 =>
       intro k1 w1 hk0 hk1 hb1 hS hd KK hK
       have d26 : x26 = undef := hd 26 (by kernel_rfl)
       clear hd
       subst d26
       simp only [Act.put, List.setIfInBounds_toArray, List.set_cons_zero, List.set_cons_succ] at hK
       go_simp
       first | exact hK.out _ _ hb1 hS rfl | (have hk := hK.out _ _ hb1 hS rfl; revert hk; go_simp)
      case io12Bx29 =>
       intro k1 w1 hk0 hk1 hb1 hS hd KK hK
       have d26 : x26 = undef := hd 26 (by kernel_rfl)
       have d27 : x27 = undef := hd 27 (by kernel_rfl)
       have d28 : x28 = undef := hd 28 (by kernel_rfl)
       clear hd
       subst d26
       subst d27
       subst d28
       simp only [Act.put, List.setIfInBounds_toArray, List.set_cons_zero, List.set_cons_succ] at hK
       go_simp
       first | exact hK.out _ _ hb1 hS rfl | (have hk := hK.out _ _ hb1 hS rfl; revert hk; go_simp)
      case io12Bx30 =>
       intro k1 w1 hk0 hk1 hb1 hS hd KK hK
       have d14 : x14 = .bool true := hd 14 (by kernel_rfl)
       have d26 : x26 = undef := hd 26 (by kernel_rfl)
       have d29 : x29 = undef := hd 29 (by kernel_rfl)
       clear hd
       subst d14
       subst d26
       subst d29
       simp only [Act.put, List.setIfInBounds_toArray, List.set_cons_zero, List.set_cons_succ] at hK
       go_simp
       first | exact hK.out _ _ hb1 hS rfl | (have hk := hK.out _ _ hb1 hS rfl; revert hk; go_simp)
      case io12Bx31 =>
       intro k1 w1 hk0 hk1 hb1 hS hd KK hK
       have d2 : x2 = .bool true := hd 2 (by kernel_rfl)
       have d14 : x14 = .bool true := hd 14 (by kernel_rfl)
       have d30 : x30 = undef := hd 30 (by kernel_rfl)
       clear hd
       subst d2
       subst d14
       subst d30
       simp only [Act.put, List.setIfInBounds_toArray, List.set_cons_zero, List.set_cons_succ] at hK
       go_simp
       first | exact hK.out _ _ hb1 hS rfl | (have hk := hK.out _ _ hb1 hS rfl; revert hk; go_simp)
      case io12Bx32 =>
       intro k1 w1 hk0 hk1 hb1 hS hd KK hK
       have d2 : x2 = .bool true := hd 2 (by kernel_rfl)
       have d31 : x31 = .bool true := hd 31 (by kernel_rfl)
       clear hd
       subst d2
       subst d31
       simp only [Act.put, List.setIfInBounds_toArray, List.set_cons_zero, List.set_cons_succ] at hK
       go_simp
       first | exact hK.out _ _ hb1 hS rfl | (have hk := hK.out _ _ hb1 hS rfl; revert hk; go_simp)
      case iend12B =>
       intro w1 hb1 hS hR
       have d0 : x0 = .int .i64 (bn : Int) := hR 0 (by decide)
       have d1 : x1 = .bool true := hR 1 (by decide)
       have d2 : x2 = .bool true := hR 2 (by decide)
       have d3 : x3 = .pointer (some ⟨w.heap.size, 1, none⟩) := hR 3 (by decide)
       have d4 : x4 = .slice (some ⟨gy, oy, none⟩) ys.length d := hR 4 (by decide)
       have d5 : x5 = .int .i64 (pz : Int) := hR 5 (by decide)
       have d6 : x6 = .pointer (some ⟨gy, oy + pz, none⟩) := hR 6 (by decide)
       have d7 : x7 = .int .i64 yp := hR 7 (by decide)
       have d8 : x8 = .pointer (some ⟨w.heap.size, 1, none⟩) := hR 8 (by decide)
       have d9 : x9 = .slice (some ⟨gy, oy, none⟩) ys.length d := hR 9 (by decide)
       have d10 : x10 = .int .i64 (bn : Int) := hR 10 (by decide)
       have d11 : x11 = .pointer (some ⟨gy, oy + bn, none⟩) := hR 11 (by decide)
       have d12 : x12 = .int .i64 yb := hR 12 (by decide)
       have d13 : x13 = .bool true := hR 13 (by decide)
       have d14 : x14 = .bool true := hR 14 (by decide)
       have d15 : x15 = undef := hR 15 (by decide)
       have d16 : x16 = undef := hR 16 (by decide)
       have d17 : x17 = undef := hR 17 (by decide)
       have d18 : x18 = undef := hR 18 (by decide)
       have d19 : x19 = undef := hR 19 (by decide)
       have d20 : x20 = undef := hR 20 (by decide)
       have d21 : x21 = undef := hR 21 (by decide)
       have d22 : x22 = undef := hR 22 (by decide)
       have d23 : x23 = undef := hR 23 (by decide)
       have d24 : x24 = undef := hR 24 (by decide)
       have d25 : x25 = undef := hR 25 (by decide)
       have d26 : x26 = undef := hR 26 (by decide)
       have d27 : x27 = undef := hR 27 (by decide)
       have d28 : x28 = undef := hR 28 (by decide)
       have d29 : x29 = undef := hR 29 (by decide)
       have d30 : x30 = undef := hR 30 (by decide)
       have d31 : x31 = .bool true := hR 31 (by decide)
       have d32 : x32 = .bool true := hR 32 (by decide)
       clear hR
       subst d0
       subst d1
       subst d2
       subst d3
       subst d4
       subst d5
       subst d6
       subst d7
       subst d8
       subst d9
       subst d10
       subst d11
       subst d12
       subst d13
       subst d14
       subst d15
       subst d16
       subst d17
       subst d18
       subst d19
       subst d20
       subst d21
       subst d22
       subst d23
       subst d24
       subst d25
       subst d26
       subst d27
       subst d28
       subst d29
       subst d30
       subst d31
       subst d32
       try simp only [putAll, Act.put, List.setIfInBounds_toArray, List.set_cons_zero, List.set_cons_succ]
       have G2 := Lib.hid hS
       have HK2 := Lib.hid (HKP.out.trans hb1)
       clear hS hb1 G1
       obtain ⟨V2, rfl⟩ : ∃ x : World, x = w1 := ⟨_, rfl⟩
       (repeat gi_step)
       have HK3 := Lib.hid (HK2.out.trans (Kept.putObj (D + 2) V2 (D + 1) (.loop (R .ready none)) (by omega)))
       have G3 := G2.out.putM 0 rfl (.loop (R .ready none)) rfl
       simp only [List.set_cons_zero, List.set_cons_succ] at G3
       have hj := HJ.out
       have e := HPK.out
       have e2 : bst ys (bn : Int) (pz : Int) = (bn : Int) := by unfold bst yAt; rw [if_pos ⟨by omega, .inl (by simp only [Int.toNat_natCast]; rw [HYP.out, HYB.out]; exact hlt2)⟩]
       rw [e2] at e
       rw [e]
       refine ⟨G2.out.m 0 rfl, HK3.out, ?_⟩
       exact ⟨G3, hj.lS, by have h9 := HK3.out.1; have h8 := hj.sz; exact Nat.le_trans h8 h9, by have h9 := hj.bB; simp only [List.mem_cons, List.not_mem_nil, or_false, forall_eq_or_imp, forall_eq] at h9 ⊢; exact h9, hj.bO, by have h9 := hj.bM; simp only [List.mem_cons, forall_eq_or_imp] at h9 ⊢; exact h9⟩
     ·skip
      have DL := Lib.hid (decide_eq_false hlt2)
      by_cases heq : yp = yb
      ·skip
       have DE := Lib.hid (show (yp == yb) = true by simpa using heq)
       by_cases hgt : (bn : Int) < (pz : Int)
       ·skip
        have DG := Lib.hid (show decide (bn < pz) = true from decide_eq_true (by omega))
        have HEQ := Lib.hid heq
        clear heq
        refine wpIn_region_inv (w := V) 33 (fun _ W2 => Kept (D + 2) V W2) (fun _ W => Fr w.heap.size w W [(w.heap.size, [.slice (some ⟨b0, o0, none⟩) xs.length c, .slice (some ⟨gy, oy, none⟩) ys.length d]), (w.heap.size + 1, [.slice aK wv.K.length cK, .slice aS wv.S.length cS, .slice aP wv.P.length cP, .slice aD wv.D.length cD]), (w.heap.size + 1 + 1, [.slice as_ S.length cs_, .slice (some ⟨gd, 0, none⟩) NN dd]), (Y7, [.slice (some ⟨b0, o0 + 2, none⟩) wv.L.length cL, .slice aK wv.K.length cK, .slice aO wv.O.length cO, .slice aK wv.K.length cK, .slice aS wv.S.length cS, .slice aP wv.P.length cP, .slice aD wv.D.length cD]), (Yb, [.int .i64 (bn : Int)]), (X1, [.slice (some ⟨b0, o0 + 2, none⟩) wv.L.length cL, .slice aK wv.K.length cK, .slice aO wv.O.length cO, .slice aK wv.K.length cK, .slice aS wv.S.length cS, .slice aP wv.P.length cP, .slice aD wv.D.length cD]), (X1 + 1, [.int .i64 (n : Int)]), (X1 + 1 + 1, [.int .i64 (M : Int)])] [(.i64, (some ⟨b0, o0, none⟩), xs), (.i64, (some ⟨gy, oy, none⟩), ys), (.i64, aK, wv.K), (.i64, aS, wv.S), (.i64, aP, wv.P), (.i64, aD, wv.D), (.i64, (some ⟨b0, o0 + 2, none⟩), wv.L)] [⟨3, .slice aO wv.O.length cO, wv.O.length, wv.O.map (Value.int .i64)⟩, ⟨3, .slice as1 S.length cs1, S.length, S.map (Value.int .i64)⟩, ⟨3, .slice as_ S.length cs_, S.length, S.map (Value.int .i64)⟩, ⟨2, .slice (some ⟨gd, 0, none⟩) NN dd, NN, LD⟩, ⟨3, .slice (some ⟨gp, 0, none⟩) NN NN, NN, LP⟩] ((D + 1, .loop (R .busy none)) :: (D, .deferred (some [])) :: mkM Ds)) [] [(fun u _ => u = .int .i64 (bn : Int)), (fun u _ => u = .bool true), (fun u _ => u = .bool true), (fun u _ => u = .pointer (some ⟨w.heap.size, 1, none⟩)), (fun u _ => u = .slice (some ⟨gy, oy, none⟩) ys.length d), (fun u _ => u = .int .i64 (pz : Int)), (fun u _ => u = .pointer (some ⟨gy, oy + pz, none⟩)), (fun u _ => u = .int .i64 yp), (fun u _ => u = .pointer (some ⟨w.heap.size, 1, none⟩)), (fun u _ => u = .slice (some ⟨gy, oy, none⟩) ys.length d), (fun u _ => u = .int .i64 (bn : Int)), (fun u _ => u = .pointer (some ⟨gy, oy + bn, none⟩)), (fun u _ => u = .int .i64 yb), (fun u _ => u = .bool false), (fun u _ => u = .bool false), (fun u _ => u = .pointer (some ⟨w.heap.size, 1, none⟩)), (fun u _ => u = .slice (some ⟨gy, oy, none⟩) ys.length d), (fun u _ => u = .int .i64 (pz : Int)), (fun u _ => u = .pointer (some ⟨gy, oy + pz, none⟩)), (fun u _ => u = .int .i64 yp), (fun u _ => u = .pointer (some ⟨w.heap.size, 1, none⟩)), (fun u _ => u = .slice (some ⟨gy, oy, none⟩) ys.length d), (fun u _ => u = .int .i64 (bn : Int)), (fun u _ => u = .pointer (some ⟨gy, oy + bn, none⟩)), (fun u _ => u = .int .i64 yb), (fun u _ => u = .bool true), (fun u _ => u = .bool true), (fun u _ => u = .int .i64 (pz : Int)), (fun u _ => u = .int .i64 (bn : Int)), (fun u _ => u = .bool true), (fun u _ => u = .bool true), (fun u _ => u = .bool true), (fun u _ => u = .bool true)] [some 39, some 40, some 41, some 42, some 43, some 44, some 45, some 46, some 47, some 48, some 49, some 50, some 51, some 52, some 53, some 54, some 55, some 56, some 57, some 58, some 59, some 60, some 61, some 62, some 63, some 64, some 65, some 66, some 67, some 68, some 69, some 70, some 71] (by kernel_rfl) (by kernel_rfl) rfl (by kernel_rfl) (by kernel_rfl) (by decide) (by decide) (fun _ h => h) (Kept.of_below (Below.drew (Below.refl _ _))) G1.out.drew (BorneAll.at (.cons (borne_eq _) (.cons (borne_eq _) (.cons (borne_eq _) (.cons (borne_eq _) (.cons (borne_eq _) (.cons (borne_eq _) (.cons (borne_eq _) (.cons (borne_eq _) (.cons (borne_eq _) (.cons (borne_eq _) (.cons (borne_eq _) (.cons (borne_eq _) (.cons (borne_eq _) (.cons (borne_eq _) (.cons (borne_eq _) (.cons (borne_eq _) (.cons (borne_eq _) (.cons (borne_eq _) (.cons (borne_eq _) (.cons (borne_eq _) (.cons (borne_eq _) (.cons (borne_eq _) (.cons (borne_eq _) (.cons (borne_eq _) (.cons (borne_eq _) (.cons (borne_eq _) (.cons (borne_eq _) (.cons (borne_eq _) (.cons (borne_eq _) (.cons (borne_eq _) (.cons (borne_eq _) (.cons (borne_eq _) (.cons (borne_eq _) .nil)))))))))))))))))))))))))))))))))) (fun vs b hvl hvb => ?_)
        obtain ⟨x0, x1, x2, x3, x4, x5, x6, x7, x8, x9, x10, x11, x12, x13, x14, x15, x16, x17, x18, x19, x20, x21, x22, x23, x24, x25, x26, x27, x28, x29, x30, x31, x32, rfl⟩ : ∃ x0 x1 x2 x3 x4 x5 x6 x7 x8 x9 x10 x11 x12 x13 x14 x15 x16 x17 x18 x19 x20 x21 x22 x23 x24 x25 x26 x27 x28 x29 x30 x31 x32, vs = [x0, x1, x2, x3, x4, x5, x6, x7, x8, x9, x10, x11, x12, x13, x14, x15, x16, x17, x18, x19, x20, x21, x22, x23, x24, x25, x26, x27, x28, x29, x30, x31, x32] := lw33 hvl
        clear hvl
        simp only [putAll, Act.put, List.setIfInBounds_toArray, List.set_cons_zero, List.set_cons_succ] at hvb
        subst hvb
        refine ⟨(.snoc (.snoc (.snoc (.snoc (.snoc (.snoc (.snoc (.snoc (.snoc (.snoc (.snoc (.snoc (.snoc (.snoc (.snoc (.snoc (.snoc (.snoc (.snoc (.snoc (.snoc (.snoc (.snoc (.snoc (.snoc (.snoc (.snoc (.snoc (.snoc (.snoc (.snoc (.snoc (.snoc .zero (InvObIn.intro (d := (some 39)) (r := fun u _ => u = .int .i64 (bn : Int)) 0 0 rfl rfl rfl (by kernel_rfl) (by kernel_rfl) rfl ?io12C2x0)) (InvObIn.intro (d := (some 40)) (r := fun u _ => u = .bool true) 0 0 rfl rfl rfl (by kernel_rfl) (by kernel_rfl) rfl ?io12C2x1)) (InvObIn.intro (d := (some 41)) (r := fun u _ => u = .bool true) 0 0 rfl rfl rfl (by kernel_rfl) (by kernel_rfl) rfl ?io12C2x2)) (InvObIn.intro (d := (some 42)) (r := fun u _ => u = .pointer (some ⟨w.heap.size, 1, none⟩)) 0 0 rfl rfl rfl (by kernel_rfl) (by kernel_rfl) rfl ?io12C2x3)) (InvObIn.intro (d := (some 43)) (r := fun u _ => u = .slice (some ⟨gy, oy, none⟩) ys.length d) 0 0 rfl rfl rfl (by kernel_rfl) (by kernel_rfl) rfl ?io12C2x4)) (InvObIn.intro (d := (some 44)) (r := fun u _ => u = .int .i64 (pz : Int)) 0 0 rfl rfl rfl (by kernel_rfl) (by kernel_rfl) rfl ?io12C2x5)) (InvObIn.intro (d := (some 45)) (r := fun u _ => u = .pointer (some ⟨gy, oy + pz, none⟩)) 0 0 rfl rfl rfl (by kernel_rfl) (by kernel_rfl) rfl ?io12C2x6)) (InvObIn.intro (d := (some 46)) (r := fun u _ => u = .int .i64 yp) 0 0 rfl rfl rfl (by kernel_rfl) (by kernel_rfl) rfl ?io12C2x7)) (InvObIn.intro (d := (some 47)) (r := fun u _ => u = .pointer (some ⟨w.heap.size, 1, none⟩)) 0 0 rfl rfl rfl (by kernel_rfl) (by kernel_rfl) rfl ?io12C2x8)) (InvObIn.intro (d := (some 48)) (r := fun u _ => u = .slice (some ⟨gy, oy, none⟩) ys.length d) 0 0 rfl rfl rfl (by kernel_rfl) (by kernel_rfl) rfl ?io12C2x9)) (InvObIn.intro (d := (some 49)) (r := fun u _ => u = .int .i64 (bn : Int)) 0 0 rfl rfl rfl (by kernel_rfl) (by kernel_rfl) rfl ?io12C2x10)) (InvObIn.intro (d := (some 50)) (r := fun u _ => u = .pointer (some ⟨gy, oy + bn, none⟩)) 0 0 rfl rfl rfl (by kernel_rfl) (by kernel_rfl) rfl ?io12C2x11)) (InvObIn.intro (d := (some 51)) (r := fun u _ => u = .int .i64 yb) 0 0 rfl rfl rfl (by kernel_rfl) (by kernel_rfl) rfl ?io12C2x12)) (InvObIn.intro (d := (some 52)) (r := fun u _ => u = .bool false) 0 0 rfl rfl rfl (by kernel_rfl) (by kernel_rfl) rfl ?io12C2x13)) (InvObIn.intro (d := (some 53)) (r := fun u _ => u = .bool false) 0 0 rfl rfl rfl (by kernel_rfl) (by kernel_rfl) rfl ?io12C2x14)) (InvObIn.intro (d := (some 54)) (r := fun u _ => u = .pointer (some ⟨w.heap.size, 1, none⟩)) 0 0 rfl rfl rfl (by kernel_rfl) (by kernel_rfl) rfl ?io12C2x15)) (InvObIn.intro (d := (some 55)) (r := fun u _ => u = .slice (some ⟨gy, oy, none⟩) ys.length d) 0 0 rfl rfl rfl (by kernel_rfl) (by kernel_rfl) rfl ?io12C2x16)) (InvObIn.intro (d := (some 56)) (r := fun u _ => u = .int .i64 (pz : Int)) 0 0 rfl rfl rfl (by kernel_rfl) (by kernel_rfl) rfl ?io12C2x17)) (InvObIn.intro (d := (some 57)) (r := fun u _ => u = .pointer (some ⟨gy, oy + pz, none⟩)) 0 0 rfl rfl rfl (by kernel_rfl) (by kernel_rfl) rfl ?io12C2x18)) (InvObIn.intro (d := (some 58)) (r := fun u _ => u = .int .i64 yp) 0 0 rfl rfl rfl (by kernel_rfl) (by kernel_rfl) rfl ?io12C2x19)) (InvObIn.intro (d := (some 59)) (r := fun u _ => u = .pointer (some ⟨w.heap.size, 1, none⟩)) 0 0 rfl rfl rfl (by kernel_rfl) (by kernel_rfl) rfl ?io12C2x20)) (InvObIn.intro (d := (some 60)) (r := fun u _ => u = .slice (some ⟨gy, oy, none⟩) ys.length d) 0 0 rfl rfl rfl (by kernel_rfl) (by kernel_rfl) rfl ?io12C2x21)) (InvObIn.intro (d := (some 61)) (r := fun u _ => u = .int .i64 (bn : Int)) 0 0 rfl rfl rfl (by kernel_rfl) (by kernel_rfl) rfl ?io12C2x22)) (InvObIn.intro (d := (some 62)) (r := fun u _ => u = .pointer (some ⟨gy, oy + bn, none⟩)) 0 0 rfl rfl rfl (by kernel_rfl) (by kernel_rfl) rfl ?io12C2x23)) (InvObIn.intro (d := (some 63)) (r := fun u _ => u = .int .i64 yb) 0 0 rfl rfl rfl (by kernel_rfl) (by kernel_rfl) rfl ?io12C2x24)) (InvObIn.intro (d := (some 64)) (r := fun u _ => u = .bool true) 0 0 rfl rfl rfl (by kernel_rfl) (by kernel_rfl) rfl ?io12C2x25)) (InvObIn.intro (d := (some 65)) (r := fun u _ => u = .bool true) 0 0 rfl rfl rfl (by kernel_rfl) (by kernel_rfl) rfl ?io12C2x26)) (InvObIn.intro (d := (some 66)) (r := fun u _ => u = .int .i64 (pz : Int)) 0 0 rfl rfl rfl (by kernel_rfl) (by kernel_rfl) rfl ?io12C2x27)) (InvObIn.intro (d := (some 67)) (r := fun u _ => u = .int .i64 (bn : Int)) 0 0 rfl rfl rfl (by kernel_rfl) (by kernel_rfl) rfl ?io12C2x28)) (InvObIn.intro (d := (some 68)) (r := fun u _ => u = .bool true) 0 0 rfl rfl rfl (by kernel_rfl) (by kernel_rfl) rfl ?io12C2x29)) (InvObIn.intro (d := (some 69)) (r := fun u _ => u = .bool true) 0 0 rfl rfl rfl (by kernel_rfl) (by kernel_rfl) rfl ?io12C2x30)) (InvObIn.intro (d := (some 70)) (r := fun u _ => u = .bool true) 0 0 rfl rfl rfl (by kernel_rfl) (by kernel_rfl) rfl ?io12C2x31)) (InvObIn.intro (d := (some 71)) (r := fun u _ => u = .bool true) 0 0 rfl rfl rfl (by kernel_rfl) (by kernel_rfl) rfl ?io12C2x32)), ?iend12C2⟩
        case io12C2x0 =>
         intro k1 w1 hk0 hk1 hb1 hS hd KK hK
         clear hd
         have k0 := hS.c 4 0 rfl rfl
         simp only [Act.put, List.setIfInBounds_toArray, List.set_cons_zero, List.set_cons_succ] at hK
         go_simp
         first | exact hK.out _ _ hb1 hS rfl | (have hk := hK.out _ _ hb1 hS rfl; revert hk; go_simp)
        case io12C2x1 =>
         intro k1 w1 hk0 hk1 hb1 hS hd KK hK
         have d0 : x0 = .int .i64 (bn : Int) := hd 0 (by kernel_rfl)
         clear hd
         subst d0
         have dx := DB.out
         simp only [Act.put, List.setIfInBounds_toArray, List.set_cons_zero, List.set_cons_succ] at hK
         go_simp
         first | exact hK.out _ _ hb1 hS rfl | (have hk := hK.out _ _ hb1 hS rfl; revert hk; go_simp)
        case io12C2x2 =>
         intro k1 w1 hk0 hk1 hb1 hS hd KK hK
         have d1 : x1 = .bool true := hd 1 (by kernel_rfl)
         clear hd
         subst d1
         simp only [Act.put, List.setIfInBounds_toArray, List.set_cons_zero, List.set_cons_succ] at hK
         go_simp
         first | exact hK.out _ _ hb1 hS rfl | (have hk := hK.out _ _ hb1 hS rfl; revert hk; go_simp)
        case io12C2x3 =>
         intro k1 w1 hk0 hk1 hb1 hS hd KK hK
         have d2 : x2 = .bool true := hd 2 (by kernel_rfl)
         clear hd
         subst d2
         simp only [Act.put, List.setIfInBounds_toArray, List.set_cons_zero, List.set_cons_succ] at hK
         go_simp
         first | exact hK.out _ _ hb1 hS rfl | (have hk := hK.out _ _ hb1 hS rfl; revert hk; go_simp)
        case io12C2x4 =>
         intro k1 w1 hk0 hk1 hb1 hS hd KK hK
         have d2 : x2 = .bool true := hd 2 (by kernel_rfl)
         have d3 : x3 = .pointer (some ⟨w.heap.size, 1, none⟩) := hd 3 (by kernel_rfl)
         clear hd
         subst d2
         subst d3
         have k0 := hS.c 0 0 rfl rfl
         have k1 := hS.c 0 1 rfl rfl
         simp only [Act.put, List.setIfInBounds_toArray, List.set_cons_zero, List.set_cons_succ] at hK
         go_simp
         first | exact hK.out _ _ hb1 hS rfl | (have hk := hK.out _ _ hb1 hS rfl; revert hk; go_simp)
        case io12C2x5 =>
         intro k1 w1 hk0 hk1 hb1 hS hd KK hK
         have d2 : x2 = .bool true := hd 2 (by kernel_rfl)
         clear hd
         subst d2
         simp only [Act.put, List.setIfInBounds_toArray, List.set_cons_zero, List.set_cons_succ] at hK
         go_simp
         first | exact hK.out _ _ hb1 hS rfl | (have hk := hK.out _ _ hb1 hS rfl; revert hk; go_simp)
        case io12C2x6 =>
         intro k1 w1 hk0 hk1 hb1 hS hd KK hK
         have d2 : x2 = .bool true := hd 2 (by kernel_rfl)
         have d4 : x4 = .slice (some ⟨gy, oy, none⟩) ys.length d := hd 4 (by kernel_rfl)
         have d5 : x5 = .int .i64 (pz : Int) := hd 5 (by kernel_rfl)
         clear hd
         subst d2
         subst d4
         subst d5
         simp only [Act.put, List.setIfInBounds_toArray, List.set_cons_zero, List.set_cons_succ] at hK
         go_simp
         first | exact hK.out _ _ hb1 hS rfl | (have hk := hK.out _ _ hb1 hS rfl; revert hk; go_simp)
        case io12C2x7 =>
         intro k1 w1 hk0 hk1 hb1 hS hd KK hK
         have d2 : x2 = .bool true := hd 2 (by kernel_rfl)
         have d6 : x6 = .pointer (some ⟨gy, oy + pz, none⟩) := hd 6 (by kernel_rfl)
         clear hd
         subst d2
         subst d6
         obtain ⟨b9, o9, he, _, hcx⟩ := (hS.l 1 rfl).cell pz hpz1
         cases he
         rw [HYP.out] at hcx
         simp only [Act.put, List.setIfInBounds_toArray, List.set_cons_zero, List.set_cons_succ] at hK
         go_simp
         first | exact hK.out _ _ hb1 hS rfl | (have hk := hK.out _ _ hb1 hS rfl; revert hk; go_simp)
        case io12C2x8 =>
         intro k1 w1 hk0 hk1 hb1 hS hd KK hK
         have d2 : x2 = .bool true := hd 2 (by kernel_rfl)
         clear hd
         subst d2
         simp only [Act.put, List.setIfInBounds_toArray, List.set_cons_zero, List.set_cons_succ] at hK
         go_simp
         first | exact hK.out _ _ hb1 hS rfl | (have hk := hK.out _ _ hb1 hS rfl; revert hk; go_simp)
        case io12C2x9 =>
         intro k1 w1 hk0 hk1 hb1 hS hd KK hK
         have d2 : x2 = .bool true := hd 2 (by kernel_rfl)
         have d8 : x8 = .pointer (some ⟨w.heap.size, 1, none⟩) := hd 8 (by kernel_rfl)
         clear hd
         subst d2
         subst d8
         have k0 := hS.c 0 0 rfl rfl
         have k1 := hS.c 0 1 rfl rfl
         simp only [Act.put, List.setIfInBounds_toArray, List.set_cons_zero, List.set_cons_succ] at hK
         go_simp
         first | exact hK.out _ _ hb1 hS rfl | (have hk := hK.out _ _ hb1 hS rfl; revert hk; go_simp)
        case io12C2x10 =>
         intro k1 w1 hk0 hk1 hb1 hS hd KK hK
         have d2 : x2 = .bool true := hd 2 (by kernel_rfl)
         clear hd
         subst d2
         have k0 := hS.c 4 0 rfl rfl
         simp only [Act.put, List.setIfInBounds_toArray, List.set_cons_zero, List.set_cons_succ] at hK
         go_simp
         first | exact hK.out _ _ hb1 hS rfl | (have hk := hK.out _ _ hb1 hS rfl; revert hk; go_simp)
        case io12C2x11 =>
         intro k1 w1 hk0 hk1 hb1 hS hd KK hK
         have d2 : x2 = .bool true := hd 2 (by kernel_rfl)
         have d9 : x9 = .slice (some ⟨gy, oy, none⟩) ys.length d := hd 9 (by kernel_rfl)
         have d10 : x10 = .int .i64 (bn : Int) := hd 10 (by kernel_rfl)
         clear hd
         subst d2
         subst d9
         subst d10
         simp only [Act.put, List.setIfInBounds_toArray, List.set_cons_zero, List.set_cons_succ] at hK
         go_simp
         first | exact hK.out _ _ hb1 hS rfl | (have hk := hK.out _ _ hb1 hS rfl; revert hk; go_simp)
        case io12C2x12 =>
         intro k1 w1 hk0 hk1 hb1 hS hd KK hK
         have d2 : x2 = .bool true := hd 2 (by kernel_rfl)
         have d11 : x11 = .pointer (some ⟨gy, oy + bn, none⟩) := hd 11 (by kernel_rfl)
         clear hd
         subst d2
         subst d11
         obtain ⟨b9, o9, he, _, hcx⟩ := (hS.l 1 rfl).cell bn hbn
         cases he
         rw [HYB.out] at hcx
         simp only [Act.put, List.setIfInBounds_toArray, List.set_cons_zero, List.set_cons_succ] at hK
         go_simp
         first | exact hK.out _ _ hb1 hS rfl | (have hk := hK.out _ _ hb1 hS rfl; revert hk; go_simp)
        case io12C2x13 =>
         intro k1 w1 hk0 hk1 hb1 hS hd KK hK
         have d2 : x2 = .bool true := hd 2 (by kernel_rfl)
         have d7 : x7 = .int .i64 yp := hd 7 (by kernel_rfl)
         have d12 : x12 = .int .i64 yb := hd 12 (by kernel_rfl)
         clear hd
         subst d2
         subst d7
         subst d12
         have dx := DL.out
         simp only [Act.put, List.setIfInBounds_toArray, List.set_cons_zero, List.set_cons_succ] at hK
         go_simp
         first | exact hK.out _ _ hb1 hS rfl | (have hk := hK.out _ _ hb1 hS rfl; revert hk; go_simp)
        case io12C2x14 =>
         intro k1 w1 hk0 hk1 hb1 hS hd KK hK
         have d2 : x2 = .bool true := hd 2 (by kernel_rfl)
         have d13 : x13 = .bool false := hd 13 (by kernel_rfl)
         clear hd
         subst d2
         subst d13
         simp only [Act.put, List.setIfInBounds_toArray, List.set_cons_zero, List.set_cons_succ] at hK
         go_simp
         first | exact hK.out _ _ hb1 hS rfl | (have hk := hK.out _ _ hb1 hS rfl; revert hk; go_simp)
        case io12C2x15 =>
         intro k1 w1 hk0 hk1 hb1 hS hd KK hK
         have d14 : x14 = .bool false := hd 14 (by kernel_rfl)
         clear hd
         subst d14
         simp only [Act.put, List.setIfInBounds_toArray, List.set_cons_zero, List.set_cons_succ] at hK
         go_simp
         first | exact hK.out _ _ hb1 hS rfl | (have hk := hK.out _ _ hb1 hS rfl; revert hk; go_simp)
        case io12C2x16 =>
         intro k1 w1 hk0 hk1 hb1 hS hd KK hK
         have d14 : x14 = .bool false := hd 14 (by kernel_rfl)
         have d15 : x15 = .pointer (some ⟨w.heap.size, 1, none⟩) := hd 15 (by kernel_rfl)
         clear hd
         subst d14
         subst d15
         have k0 := hS.c 0 0 rfl rfl
         have k1 := hS.c 0 1 rfl rfl
         simp only [Act.put, List.setIfInBounds_toArray, List.set_cons_zero, List.set_cons_succ] at hK
         go_simp
         first | exact hK.out _ _ hb1 hS rfl | (have hk := hK.out _ _ hb1 hS rfl; revert hk; go_simp)
        case io12C2x17 =>
         intro k1 w1 hk0 hk1 hb1 hS hd KK hK
         have d14 : x14 = .bool false := hd 14 (by kernel_rfl)
         clear hd
         subst d14
         simp only [Act.put, List.setIfInBounds_toArray, List.set_cons_zero, List.set_cons_succ] at hK
         go_simp
         first | exact hK.out _ _ hb1 hS rfl | (have hk := hK.out _ _ hb1 hS rfl; revert hk; go_simp)
        case io12C2x18 =>
         intro k1 w1 hk0 hk1 hb1 hS hd KK hK
         have d14 : x14 = .bool false := hd 14 (by kernel_rfl)
         have d16 : x16 = .slice (some ⟨gy, oy, none⟩) ys.length d := hd 16 (by kernel_rfl)
         have d17 : x17 = .int .i64 (pz : Int) := hd 17 (by kernel_rfl)
         clear hd
         subst d14
         subst d16
         subst d17
         simp only [Act.put, List.setIfInBounds_toArray, List.set_cons_zero, List.set_cons_succ] at hK
         go_simp
         first | exact hK.out _ _ hb1 hS rfl | (have hk := hK.out _ _ hb1 hS rfl; revert hk; go_simp)
        case io12C2x19 =>
         intro k1 w1 hk0 hk1 hb1 hS hd KK hK
         have d14 : x14 = .bool false := hd 14 (by kernel_rfl)
         have d18 : x18 = .pointer (some ⟨gy, oy + pz, none⟩) := hd 18 (by kernel_rfl)
         clear hd
         subst d14
         subst d18
         obtain ⟨b9, o9, he, _, hcx⟩ := (hS.l 1 rfl).cell pz hpz1
         cases he
         rw [HYP.out] at hcx
         simp only [Act.put, List.setIfInBounds_toArray, List.set_cons_zero, List.set_cons_succ] at hK
         go_simp
         first | exact hK.out _ _ hb1 hS rfl | (have hk := hK.out _ _ hb1 hS rfl; revert hk; go_simp)
        case io12C2x20 =>
         intro k1 w1 hk0 hk1 hb1 hS hd KK hK
         have d14 : x14 = .bool false := hd 14 (by kernel_rfl)
         clear hd
         subst d14
         simp only [Act.put, List.setIfInBounds_toArray, List.set_cons_zero, List.set_cons_succ] at hK
         go_simp
         first | exact hK.out _ _ hb1 hS rfl | (have hk := hK.out _ _ hb1 hS rfl; revert hk; go_simp)
        case io12C2x21 =>
         intro k1 w1 hk0 hk1 hb1 hS hd KK hK
         have d14 : x14 = .bool false := hd 14 (by kernel_rfl)
         have d20 : x20 = .pointer (some ⟨w.heap.size, 1, none⟩) := hd 20 (by kernel_rfl)
         clear hd
         subst d14
         subst d20
         have k0 := hS.c 0 0 rfl rfl
         have k1 := hS.c 0 1 rfl rfl
         simp only [Act.put, List.setIfInBounds_toArray, List.set_cons_zero, List.set_cons_succ] at hK
         go_simp
         first | exact hK.out _ _ hb1 hS rfl | (have hk := hK.out _ _ hb1 hS rfl; revert hk; go_simp)
        case io12C2x22 =>
         intro k1 w1 hk0 hk1 hb1 hS hd KK hK
         have d14 : x14 = .bool false := hd 14 (by kernel_rfl)
         clear hd
         subst d14
         have k0 := hS.c 4 0 rfl rfl
         simp only [Act.put, List.setIfInBounds_toArray, List.set_cons_zero, List.set_cons_succ] at hK
         go_simp
         first | exact hK.out _ _ hb1 hS rfl | (have hk := hK.out _ _ hb1 hS rfl; revert hk; go_simp)
        case io12C2x23 =>
         intro k1 w1 hk0 hk1 hb1 hS hd KK hK
         have d14 : x14 = .bool false := hd 14 (by kernel_rfl)
         have d21 : x21 = .slice (some ⟨gy, oy, none⟩) ys.length d := hd 21 (by kernel_rfl)
         have d22 : x22 = .int .i64 (bn : Int) := hd 22 (by kernel_rfl)
         clear hd
         subst d14
         subst d21
         subst d22
         simp only [Act.put, List.setIfInBounds_toArray, List.set_cons_zero, List.set_cons_succ] at hK
         go_simp
         first | exact hK.out _ _ hb1 hS rfl | (have hk := hK.out _ _ hb1 hS rfl; revert hk; go_simp)
        case io12C2x24 =>
         intro k1 w1 hk0 hk1 hb1 hS hd KK hK
         have d14 : x14 = .bool false := hd 14 (by kernel_rfl)
         have d23 : x23 = .pointer (some ⟨gy, oy + bn, none⟩) := hd 23 (by kernel_rfl)
         clear hd
         subst d14
         subst d23
         obtain ⟨b9, o9, he, _, hcx⟩ := (hS.l 1 rfl).cell bn hbn
         cases he
         rw [HYB.out] at hcx
         simp only [Act.put, List.setIfInBounds_toArray, List.set_cons_zero, List.set_cons_succ] at hK
         go_simp
         first | exact hK.out _ _ hb1 hS rfl | (have hk := hK.out _ _ hb1 hS rfl; revert hk; go_simp)
        case io12C2x25 =>
         intro k1 w1 hk0 hk1 hb1 hS hd KK hK
         have d14 : x14 = .bool false := hd 14 (by kernel_rfl)
         have d19 : x19 = .int .i64 yp := hd 19 (by kernel_rfl)
         have d24 : x24 = .int .i64 yb := hd 24 (by kernel_rfl)
         clear hd
         subst d14
         subst d19
         subst d24
         have dx := DE.out
         simp only [Act.put, List.setIfInBounds_toArray, List.set_cons_zero, List.set_cons_succ] at hK
         go_simp
         first | exact hK.out _ _ hb1 hS rfl | (have hk := hK.out _ _ hb1 hS rfl; revert hk; go_simp)
        case io12C2x26 =>
         intro k1 w1 hk0 hk1 hb1 hS hd KK hK
         have d14 : x14 = .bool false := hd 14 (by kernel_rfl)
         have d25 : x25 = .bool true := hd 25 (by kernel_rfl)
         clear hd
         subst d14
         subst d25
         simp only [Act.put, List.setIfInBounds_toArray, List.set_cons_zero, List.set_cons_succ] at hK
         go_simp
         first | exact hK.out _ _ hb1 hS rfl | (have hk := hK.out _ _ hb1 hS rfl; revert hk; go_simp)
        case io12C2x27 =>
         intro k1 w1 hk0 hk1 hb1 hS hd KK hK
         have d26 : x26 = .bool true := hd 26 (by kernel_rfl)
         clear hd
         subst d26
         simp only [Act.put, List.setIfInBounds_toArray, List.set_cons_zero, List.set_cons_succ] at hK
         go_simp
         first | exact hK.out _ _ hb1 hS rfl | (have hk := hK.out _ _ hb1 hS rfl; revert hk; go_simp)
        case io12C2x28 =>
         intro k1 w1 hk0 hk1 hb1 hS hd KK hK
         have d26 : x26 = .bool true := hd 26 (by kernel_rfl)
         clear hd
         subst d26
         have k0 := hS.c 4 0 rfl rfl
         simp only [Act.put, List.setIfInBounds_toArray, List.set_cons_zero, List.set_cons_succ] at hK
         go_simp
         first | exact hK.out _ _ hb1 hS rfl | (have hk := hK.out _ _ hb1 hS rfl; revert hk; go_simp)
        case io12C2x29 =>
         intro k1 w1 hk0 hk1 hb1 hS hd KK hK
         have d26 : x26 = .bool true := hd 26 (by kernel_rfl)
         have d27 : x27 = .int .i64 (pz : Int) := hd 27 (by kernel_rfl)
         have d28 : x28 = .int .i64 (bn : Int) := hd 28 (by kernel_rfl)
         clear hd
         subst d26
         subst d27
         subst d28
         have dx := DG.out
         simp only [Act.put, List.setIfInBounds_toArray, List.set_cons_zero, List.set_cons_succ] at hK
         go_simp
         first | exact hK.out _ _ hb1 hS rfl | (have hk := hK.out _ _ hb1 hS rfl; revert hk; go_simp)
        case io12C2x30 =>
         intro k1 w1 hk0 hk1 hb1 hS hd KK hK
         have d14 : x14 = .bool false := hd 14 (by kernel_rfl)
         have d26 : x26 = .bool true := hd 26 (by kernel_rfl)
         have d29 : x29 = .bool true := hd 29 (by kernel_rfl)
         clear hd
         subst d14
         subst d26
         subst d29
         simp only [Act.put, List.setIfInBounds_toArray, List.set_cons_zero, List.set_cons_succ] at hK
         go_simp
         first | exact hK.out _ _ hb1 hS rfl | (have hk := hK.out _ _ hb1 hS rfl; revert hk; go_simp)
        case io12C2x31 =>
         intro k1 w1 hk0 hk1 hb1 hS hd KK hK
         have d2 : x2 = .bool true := hd 2 (by kernel_rfl)
         have d14 : x14 = .bool false := hd 14 (by kernel_rfl)
         have d30 : x30 = .bool true := hd 30 (by kernel_rfl)
         clear hd
         subst d2
         subst d14
         subst d30
         simp only [Act.put, List.setIfInBounds_toArray, List.set_cons_zero, List.set_cons_succ] at hK
         go_simp
         first | exact hK.out _ _ hb1 hS rfl | (have hk := hK.out _ _ hb1 hS rfl; revert hk; go_simp)
        case io12C2x32 =>
         intro k1 w1 hk0 hk1 hb1 hS hd KK hK
         have d2 : x2 = .bool true := hd 2 (by kernel_rfl)
         have d31 : x31 = .bool true := hd 31 (by kernel_rfl)
         clear hd
         subst d2
         subst d31
         simp only [Act.put, List.setIfInBounds_toArray, List.set_cons_zero, List.set_cons_succ] at hK
         go_simp
         first | exact hK.out _ _ hb1 hS rfl | (have hk := hK.out _ _ hb1 hS rfl; revert hk; go_simp)
        case iend12C2 =>
         intro w1 hb1 hS hR
         have d0 : x0 = .int .i64 (bn : Int) := hR 0 (by decide)
         have d1 : x1 = .bool true := hR 1 (by decide)
         have d2 : x2 = .bool true := hR 2 (by decide)
         have d3 : x3 = .pointer (some ⟨w.heap.size, 1, none⟩) := hR 3 (by decide)
         have d4 : x4 = .slice (some ⟨gy, oy, none⟩) ys.length d := hR 4 (by decide)
         have d5 : x5 = .int .i64 (pz : Int) := hR 5 (by decide)
         have d6 : x6 = .pointer (some ⟨gy, oy + pz, none⟩) := hR 6 (by decide)
         have d7 : x7 = .int .i64 yp := hR 7 (by decide)
         have d8 : x8 = .pointer (some ⟨w.heap.size, 1, none⟩) := hR 8 (by decide)
         have d9 : x9 = .slice (some ⟨gy, oy, none⟩) ys.length d := hR 9 (by decide)
         have d10 : x10 = .int .i64 (bn : Int) := hR 10 (by decide)
         have d11 : x11 = .pointer (some ⟨gy, oy + bn, none⟩) := hR 11 (by decide)
         have d12 : x12 = .int .i64 yb := hR 12 (by decide)
         have d13 : x13 = .bool false := hR 13 (by decide)
         have d14 : x14 = .bool false := hR 14 (by decide)
         have d15 : x15 = .pointer (some ⟨w.heap.size, 1, none⟩) := hR 15 (by decide)
         have d16 : x16 = .slice (some ⟨gy, oy, none⟩) ys.length d := hR 16 (by decide)
         have d17 : x17 = .int .i64 (pz : Int) := hR 17 (by decide)
         have d18 : x18 = .pointer (some ⟨gy, oy + pz, none⟩) := hR 18 (by decide)
         have d19 : x19 = .int .i64 yp := hR 19 (by decide)
         have d20 : x20 = .pointer (some ⟨w.heap.size, 1, none⟩) := hR 20 (by decide)
         have d21 : x21 = .slice (some ⟨gy, oy, none⟩) ys.length d := hR 21 (by decide)
         have d22 : x22 = .int .i64 (bn : Int) := hR 22 (by decide)
         have d23 : x23 = .pointer (some ⟨gy, oy + bn, none⟩) := hR 23 (by decide)
         have d24 : x24 = .int .i64 yb := hR 24 (by decide)
         have d25 : x25 = .bool true := hR 25 (by decide)
         have d26 : x26 = .bool true := hR 26 (by decide)
         have d27 : x27 = .int .i64 (pz : Int) := hR 27 (by decide)
         have d28 : x28 = .int .i64 (bn : Int) := hR 28 (by decide)
         have d29 : x29 = .bool true := hR 29 (by decide)
         have d30 : x30 = .bool true := hR 30 (by decide)
         have d31 : x31 = .bool true := hR 31 (by decide)
         have d32 : x32 = .bool true := hR 32 (by decide)
         clear hR
         subst d0
         subst d1
         subst d2
         subst d3
         subst d4
         subst d5
         subst d6
         subst d7
         subst d8
         subst d9
         subst d10
         subst d11
         subst d12
         subst d13
         subst d14
         subst d15
         subst d16
         subst d17
         subst d18
         subst d19
         subst d20
         subst d21
         subst d22
         subst d23
         subst d24
         subst d25
         subst d26
         subst d27
         subst d28
         subst d29
         subst d30
         subst d31
         subst d32
         try simp only [putAll, Act.put, List.setIfInBounds_toArray, List.set_cons_zero, List.set_cons_succ]
         have G2 := Lib.hid hS
         have HK2 := Lib.hid (HKP.out.trans hb1)
         clear hS hb1 G1
         obtain ⟨V2, rfl⟩ : ∃ x : World, x = w1 := ⟨_, rfl⟩
         (repeat gi_step)
         have HK3 := Lib.hid (HK2.out.trans (Kept.putObj (D + 2) V2 (D + 1) (.loop (R .ready none)) (by omega)))
         have G3 := G2.out.putM 0 rfl (.loop (R .ready none)) rfl
         simp only [List.set_cons_zero, List.set_cons_succ] at G3
         have hj := HJ.out
         have e := HPK.out
         have e2 : bst ys (bn : Int) (pz : Int) = (bn : Int) := by unfold bst yAt; rw [if_pos ⟨by omega, .inr ⟨by simp only [Int.toNat_natCast]; rw [HYP.out, HYB.out]; exact HEQ.out, hgt⟩⟩]
         rw [e2] at e
         rw [e]
         refine ⟨G2.out.m 0 rfl, HK3.out, ?_⟩
         exact ⟨G3, hj.lS, by have h9 := HK3.out.1; have h8 := hj.sz; exact Nat.le_trans h8 h9, by have h9 := hj.bB; simp only [List.mem_cons, List.not_mem_nil, or_false, forall_eq_or_imp, forall_eq] at h9 ⊢; exact h9, hj.bO, by have h9 := hj.bM; simp only [List.mem_cons, forall_eq_or_imp] at h9 ⊢; exact h9⟩
       ·skip
        have DG := Lib.hid (show decide (bn < pz) = false from decide_eq_false (by omega))
        have HEQ := Lib.hid heq
        clear heq
        refine wpIn_region_inv (w := V) 33 (fun _ W2 => Kept (D + 2) V W2) (fun _ W => Fr w.heap.size w W [(w.heap.size, [.slice (some ⟨b0, o0, none⟩) xs.length c, .slice (some ⟨gy, oy, none⟩) ys.length d]), (w.heap.size + 1, [.slice aK wv.K.length cK, .slice aS wv.S.length cS, .slice aP wv.P.length cP, .slice aD wv.D.length cD]), (w.heap.size + 1 + 1, [.slice as_ S.length cs_, .slice (some ⟨gd, 0, none⟩) NN dd]), (Y7, [.slice (some ⟨b0, o0 + 2, none⟩) wv.L.length cL, .slice aK wv.K.length cK, .slice aO wv.O.length cO, .slice aK wv.K.length cK, .slice aS wv.S.length cS, .slice aP wv.P.length cP, .slice aD wv.D.length cD]), (Yb, [.int .i64 (bn : Int)]), (X1, [.slice (some ⟨b0, o0 + 2, none⟩) wv.L.length cL, .slice aK wv.K.length cK, .slice aO wv.O.length cO, .slice aK wv.K.length cK, .slice aS wv.S.length cS, .slice aP wv.P.length cP, .slice aD wv.D.length cD]), (X1 + 1, [.int .i64 (n : Int)]), (X1 + 1 + 1, [.int .i64 (M : Int)])] [(.i64, (some ⟨b0, o0, none⟩), xs), (.i64, (some ⟨gy, oy, none⟩), ys), (.i64, aK, wv.K), (.i64, aS, wv.S), (.i64, aP, wv.P), (.i64, aD, wv.D), (.i64, (some ⟨b0, o0 + 2, none⟩), wv.L)] [⟨3, .slice aO wv.O.length cO, wv.O.length, wv.O.map (Value.int .i64)⟩, ⟨3, .slice as1 S.length cs1, S.length, S.map (Value.int .i64)⟩, ⟨3, .slice as_ S.length cs_, S.length, S.map (Value.int .i64)⟩, ⟨2, .slice (some ⟨gd, 0, none⟩) NN dd, NN, LD⟩, ⟨3, .slice (some ⟨gp, 0, none⟩) NN NN, NN, LP⟩] ((D + 1, .loop (R .busy none)) :: (D, .deferred (some [])) :: mkM Ds)) [] [(fun u _ => u = .int .i64 (bn : Int)), (fun u _ => u = .bool true), (fun u _ => u = .bool true), (fun u _ => u = .pointer (some ⟨w.heap.size, 1, none⟩)), (fun u _ => u = .slice (some ⟨gy, oy, none⟩) ys.length d), (fun u _ => u = .int .i64 (pz : Int)), (fun u _ => u = .pointer (some ⟨gy, oy + pz, none⟩)), (fun u _ => u = .int .i64 yp), (fun u _ => u = .pointer (some ⟨w.heap.size, 1, none⟩)), (fun u _ => u = .slice (some ⟨gy, oy, none⟩) ys.length d), (fun u _ => u = .int .i64 (bn : Int)), (fun u _ => u = .pointer (some ⟨gy, oy + bn, none⟩)), (fun u _ => u = .int .i64 yb), (fun u _ => u = .bool false), (fun u _ => u = .bool false), (fun u _ => u = .pointer (some ⟨w.heap.size, 1, none⟩)), (fun u _ => u = .slice (some ⟨gy, oy, none⟩) ys.length d), (fun u _ => u = .int .i64 (pz : Int)), (fun u _ => u = .pointer (some ⟨gy, oy + pz, none⟩)), (fun u _ => u = .int .i64 yp), (fun u _ => u = .pointer (some ⟨w.heap.size, 1, none⟩)), (fun u _ => u = .slice (some ⟨gy, oy, none⟩) ys.length d), (fun u _ => u = .int .i64 (bn : Int)), (fun u _ => u = .pointer (some ⟨gy, oy + bn, none⟩)), (fun u _ => u = .int .i64 yb), (fun u _ => u = .bool true), (fun u _ => u = .bool true), (fun u _ => u = .int .i64 (pz : Int)), (fun u _ => u = .int .i64 (bn : Int)), (fun u _ => u = .bool false), (fun u _ => u = .bool false), (fun u _ => u = .bool false), (fun u _ => u = .bool false)] [some 39, some 40, some 41, some 42, some 43, some 44, some 45, some 46, some 47, some 48, some 49, some 50, some 51, some 52, some 53, some 54, some 55, some 56, some 57, some 58, some 59, some 60, some 61, some 62, some 63, some 64, some 65, some 66, some 67, some 68, some 69, some 70, some 71] (by kernel_rfl) (by kernel_rfl) rfl (by kernel_rfl) (by kernel_rfl) (by decide) (by decide) (fun _ h => h) (Kept.of_below (Below.drew (Below.refl _ _))) G1.out.drew (BorneAll.at (.cons (borne_eq _) (.cons (borne_eq _) (.cons (borne_eq _) (.cons (borne_eq _) (.cons (borne_eq _) (.cons (borne_eq _) (.cons (borne_eq _) (.cons (borne_eq _) (.cons (borne_eq _) (.cons (borne_eq _) (.cons (borne_eq _) (.cons (borne_eq _) (.cons (borne_eq _) (.cons (borne_eq _) (.cons (borne_eq _) (.cons (borne_eq _) (.cons (borne_eq _) (.cons (borne_eq _) (.cons (borne_eq _) (.cons (borne_eq _) (.cons (borne_eq _) (.cons (borne_eq _) (.cons (borne_eq _) (.cons (borne_eq _) (.cons (borne_eq _) (.cons (borne_eq _) (.cons (borne_eq _) (.cons (borne_eq _) (.cons (borne_eq _) (.cons (borne_eq _) (.cons (borne_eq _) (.cons (borne_eq _) (.cons (borne_eq _) .nil)))))))))))))))))))))))))))))))))) (fun vs b hvl hvb => ?_)
        obtain ⟨x0, x1, x2, x3, x4, x5, x6, x7, x8, x9, x10, x11, x12, x13, x14, x15, x16, x17, x18, x19, x20, x21, x22, x23, x24, x25, x26, x27, x28, x29, x30, x31, x32, rfl⟩ : ∃ x0 x1 x2 x3 x4 x5 x6 x7 x8 x9 x10 x11 x12 x13 x14 x15 x16 x17 x18 x19 x20 x21 x22 x23 x24 x25 x26 x27 x28 x29 x30 x31 x32, vs = [x0, x1, x2, x3, x4, x5, x6, x7, x8, x9, x10, x11, x12, x13, x14, x15, x16, x17, x18, x19, x20, x21, x22, x23, x24, x25, x26, x27, x28, x29, x30, x31, x32] := lw33 hvl
        clear hvl
        simp only [putAll, Act.put, List.setIfInBounds_toArray, List.set_cons_zero, List.set_cons_succ] at hvb
        subst hvb
        refine ⟨(.snoc (.snoc (.snoc (.snoc (.snoc (.snoc (.snoc (.snoc (.snoc (.snoc (.snoc (.snoc (.snoc (.snoc (.snoc (.snoc (.snoc (.snoc (.snoc (.snoc (.snoc (.snoc (.snoc (.snoc (.snoc (.snoc (.snoc (.snoc (.snoc (.snoc (.snoc (.snoc (.snoc .zero (InvObIn.intro (d := (some 39)) (r := fun u _ => u = .int .i64 (bn : Int)) 0 0 rfl rfl rfl (by kernel_rfl) (by kernel_rfl) rfl ?io12C3x0)) (InvObIn.intro (d := (some 40)) (r := fun u _ => u = .bool true) 0 0 rfl rfl rfl (by kernel_rfl) (by kernel_rfl) rfl ?io12C3x1)) (InvObIn.intro (d := (some 41)) (r := fun u _ => u = .bool true) 0 0 rfl rfl rfl (by kernel_rfl) (by kernel_rfl) rfl ?io12C3x2)) (InvObIn.intro (d := (some 42)) (r := fun u _ => u = .pointer (some ⟨w.heap.size, 1, none⟩)) 0 0 rfl rfl rfl (by kernel_rfl) (by kernel_rfl) rfl ?io12C3x3)) (InvObIn.intro (d := (some 43)) (r := fun u _ => u = .slice (some ⟨gy, oy, none⟩) ys.length d) 0 0 rfl rfl rfl (by kernel_rfl) (by kernel_rfl) rfl ?io12C3x4)) (InvObIn.intro (d := (some 44)) (r := fun u _ => u = .int .i64 (pz : Int)) 0 0 rfl rfl rfl (by kernel_rfl) (by kernel_rfl) rfl ?io12C3x5)) (InvObIn.intro (d := (some 45)) (r := fun u _ => u = .pointer (some ⟨gy, oy + pz, none⟩)) 0 0 rfl rfl rfl (by kernel_rfl) (by kernel_rfl) rfl ?io12C3x6)) (InvObIn.intro (d := (some 46)) (r := fun u _ => u = .int .i64 yp) 0 0 rfl rfl rfl (by kernel_rfl) (by kernel_rfl) rfl ?io12C3x7)) (InvObIn.intro (d := (some 47)) (r := fun u _ => u = .pointer (some ⟨w.heap.size, 1, none⟩)) 0 0 rfl rfl rfl (by kernel_rfl) (by kernel_rfl) rfl ?io12C3x8)) (InvObIn.intro (d := (some 48)) (r := fun u _ => u = .slice (some ⟨gy, oy, none⟩) ys.length d) 0 0 rfl rfl rfl (by kernel_rfl) (by kernel_rfl) rfl ?io12C3x9)) (InvObIn.intro (d := (some 49)) (r := fun u _ => u = .int .i64 (bn : Int)) 0 0 rfl rfl rfl (by kernel_rfl) (by kernel_rfl) rfl ?io12C3x10)) (InvObIn.intro (d := (some 50)) (r := fun u _ => u = .pointer (some ⟨gy, oy + bn, none⟩)) 0 0 rfl rfl rfl (by kernel_rfl) (by kernel_rfl) rfl ?io12C3x11)) (InvObIn.intro (d := (some 51)) (r := fun u _ => u = .int .i64 yb) 0 0 rfl rfl rfl (by kernel_rfl) (by kernel_rfl) rfl ?io12C3x12)) (InvObIn.intro (d := (some 52)) (r := fun u _ => u = .bool false) 0 0 rfl rfl rfl (by kernel_rfl) (by kernel_rfl) rfl ?io12C3x13)) (InvObIn.intro (d := (some 53)) (r := fun u _ => u = .bool false) 0 0 rfl rfl rfl (by kernel_rfl) (by kernel_rfl) rfl ?io12C3x14)) (InvObIn.intro (d := (some 54)) (r := fun u _ => u = .pointer (some ⟨w.heap.size, 1, none⟩)) 0 0 rfl rfl rfl (by kernel_rfl) (by kernel_rfl) rfl ?io12C3x15)) (InvObIn.intro (d := (some 55)) (r := fun u _ => u = .slice (some ⟨gy, oy, none⟩) ys.length d) 0 0 rfl rfl rfl (by kernel_rfl) (by kernel_rfl) rfl ?io12C3x16)) (InvObIn.intro (d := (some 56)) (r := fun u _ => u = .int .i64 (pz : Int)) 0 0 rfl rfl rfl (by kernel_rfl) (by kernel_rfl) rfl ?io12C3x17)) (InvObIn.intro (d := (some 57)) (r := fun u _ => u = .pointer (some ⟨gy, oy + pz, none⟩)) 0 0 rfl rfl rfl (by kernel_rfl) (by kernel_rfl) rfl ?io12C3x18)) (InvObIn.intro (d := (some 58)) (r := fun u _ => u = .int .i64 yp) 0 0 rfl rfl rfl (by kernel_rfl) (by kernel_rfl) rfl ?io12C3x19)) (InvObIn.intro (d := (some 59)) (r := fun u _ => u = .pointer (some ⟨w.heap.size, 1, none⟩)) 0 0 rfl rfl rfl (by kernel_rfl) (by kernel_rfl) rfl ?io12C3x20)) (InvObIn.intro (d := (some 60)) (r := fun u _ => u = .slice (some ⟨gy, oy, none⟩) ys.length d) 0 0 rfl rfl rfl (by kernel_rfl) (by kernel_rfl) rfl ?io12C3x21)) (InvObIn.intro (d := (some 61)) (r := fun u _ => u = .int .i64 (bn : Int)) 0 0 rfl rfl rfl (by kernel_rfl) (by kernel_rfl) rfl ?io12C3x22)) (InvObIn.intro (d := (some 62)) (r := fun u _ => u = .pointer (some ⟨gy, oy + bn, none⟩)) 0 0 rfl rfl rfl (by kernel_rfl) (by kernel_rfl) rfl ?io12C3x23)) (InvObIn.intro (d := (some 63)) (r := fun u _ => u = .int .i64 yb) 0 0 rfl rfl rfl (by kernel_rfl) (by kernel_rfl) rfl ?io12C3x24)) (InvObIn.intro (d := (some 64)) (r := fun u _ => u = .bool true) 0 0 rfl rfl rfl (by kernel_rfl) (by kernel_rfl) rfl ?io12C3x25)) (InvObIn.intro (d := (some 65)) (r := fun u _ => u = .bool true) 0 0 rfl rfl rfl (by kernel_rfl) (by kernel_rfl) rfl ?io12C3x26)) (InvObIn.intro (d := (some 66)) (r := fun u _ => u = .int .i64 (pz : Int)) 0 0 rfl rfl rfl (by kernel_rfl) (by kernel_rfl) rfl ?io12C3x27)) (InvObIn.intro (d := (some 67)) (r := fun u _ => u = .int .i64 (bn : Int)) 0 0 rfl rfl rfl (by kernel_rfl) (by kernel_rfl) rfl ?io12C3x28)) (InvObIn.intro (d := (some 68)) (r := fun u _ => u = .bool false) 0 0 rfl rfl rfl (by kernel_rfl) (by kernel_rfl) rfl ?io12C3x29)) (InvObIn.intro (d := (some 69)) (r := fun u _ => u = .bool false) 0 0 rfl rfl rfl (by kernel_rfl) (by kernel_rfl) rfl ?io12C3x30)) (InvObIn.intro (d := (some 70)) (r := fun u _ => u = .bool false) 0 0 rfl rfl rfl (by kernel_rfl) (by kernel_rfl) rfl ?io12C3x31)) (InvObIn.intro (d := (some 71)) (r := fun u _ => u = .bool false) 0 0 rfl rfl rfl (by kernel_rfl) (by kernel_rfl) rfl ?io12C3x32)), ?iend12C3⟩
        case io12C3x0 =>
         intro k1 w1 hk0 hk1 hb1 hS hd KK hK
         clear hd
         have k0 := hS.c 4 0 rfl rfl
         simp only [Act.put, List.setIfInBounds_toArray, List.set_cons_zero, List.set_cons_succ] at hK
         go_simp
         first | exact hK.out _ _ hb1 hS rfl | (have hk := hK.out _ _ hb1 hS rfl; revert hk; go_simp)
        case io12C3x1 =>
         intro k1 w1 hk0 hk1 hb1 hS hd KK hK
         have d0 : x0 = .int .i64 (bn : Int) := hd 0 (by kernel_rfl)
         clear hd
         subst d0
         have dx := DB.out
         simp only [Act.put, List.setIfInBounds_toArray, List.set_cons_zero, List.set_cons_succ] at hK
         go_simp
         first | exact hK.out _ _ hb1 hS rfl | (have hk := hK.out _ _ hb1 hS rfl; revert hk; go_simp)
        case io12C3x2 =>
         intro k1 w1 hk0 hk1 hb1 hS hd KK hK
         have d1 : x1 = .bool true := hd 1 (by kernel_rfl)
         clear hd
         subst d1
         simp only [Act.put, List.setIfInBounds_toArray, List.set_cons_zero, List.set_cons_succ] at hK
         go_simp
         first | exact hK.out _ _ hb1 hS rfl | (have hk := hK.out _ _ hb1 hS rfl; revert hk; go_simp)
        case io12C3x3 =>
         intro k1 w1 hk0 hk1 hb1 hS hd KK hK
         have d2 : x2 = .bool true := hd 2 (by kernel_rfl)
         clear hd
         subst d2
         simp only [Act.put, List.setIfInBounds_toArray, List.set_cons_zero, List.set_cons_succ] at hK
         go_simp
         first | exact hK.out _ _ hb1 hS rfl | (have hk := hK.out _ _ hb1 hS rfl; revert hk; go_simp)
        case io12C3x4 =>
         intro k1 w1 hk0 hk1 hb1 hS hd KK hK
         have d2 : x2 = .bool true := hd 2 (by kernel_rfl)
         have d3 : x3 = .pointer (some ⟨w.heap.size, 1, none⟩) := hd 3 (by kernel_rfl)
         clear hd
         subst d2
         subst d3
         have k0 := hS.c 0 0 rfl rfl
         have k1 := hS.c 0 1 rfl rfl
         simp only [Act.put, List.setIfInBounds_toArray, List.set_cons_zero, List.set_cons_succ] at hK
         go_simp
         first | exact hK.out _ _ hb1 hS rfl | (have hk := hK.out _ _ hb1 hS rfl; revert hk; go_simp)
        case io12C3x5 =>
         intro k1 w1 hk0 hk1 hb1 hS hd KK hK
         have d2 : x2 = .bool true := hd 2 (by kernel_rfl)
         clear hd
         subst d2
         simp only [Act.put, List.setIfInBounds_toArray, List.set_cons_zero, List.set_cons_succ] at hK
         go_simp
         first | exact hK.out _ _ hb1 hS rfl | (have hk := hK.out _ _ hb1 hS rfl; revert hk; go_simp)
        case io12C3x6 =>
         intro k1 w1 hk0 hk1 hb1 hS hd KK hK
         have d2 : x2 = .bool true := hd 2 (by kernel_rfl)
         have d4 : x4 = .slice (some ⟨gy, oy, none⟩) ys.length d := hd 4 (by kernel_rfl)
         have d5 : x5 = .int .i64 (pz : Int) := hd 5 (by kernel_rfl)
         clear hd
         subst d2
         subst d4
         subst d5
         simp only [Act.put, List.setIfInBounds_toArray, List.set_cons_zero, List.set_cons_succ] at hK
         go_simp
         first | exact hK.out _ _ hb1 hS rfl | (have hk := hK.out _ _ hb1 hS rfl; revert hk; go_simp)
        case io12C3x7 =>
         intro k1 w1 hk0 hk1 hb1 hS hd KK hK
         have d2 : x2 = .bool true := hd 2 (by kernel_rfl)
         have d6 : x6 = .pointer (some ⟨gy, oy + pz, none⟩) := hd 6 (by kernel_rfl)
         clear hd
         subst d2
         subst d6
         obtain ⟨b9, o9, he, _, hcx⟩ := (hS.l 1 rfl).cell pz hpz1
         cases he
         rw [HYP.out] at hcx
         simp only [Act.put, List.setIfInBounds_toArray, List.set_cons_zero, List.set_cons_succ] at hK
         go_simp
         first | exact hK.out _ _ hb1 hS rfl | (have hk := hK.out _ _ hb1 hS rfl; revert hk; go_simp)
        case io12C3x8 =>
         intro k1 w1 hk0 hk1 hb1 hS hd KK hK
         have d2 : x2 = .bool true := hd 2 (by kernel_rfl)
         clear hd
         subst d2
         simp only [Act.put, List.setIfInBounds_toArray, List.set_cons_zero, List.set_cons_succ] at hK
         go_simp
         first | exact hK.out _ _ hb1 hS rfl | (have hk := hK.out _ _ hb1 hS rfl; revert hk; go_simp)
        case io12C3x9 =>
         intro k1 w1 hk0 hk1 hb1 hS hd KK hK
         have d2 : x2 = .bool true := hd 2 (by kernel_rfl)
         have d8 : x8 = .pointer (some ⟨w.heap.size, 1, none⟩) := hd 8 (by kernel_rfl)
         clear hd
         subst d2
         subst d8
         have k0 := hS.c 0 0 rfl rfl
         have k1 := hS.c 0 1 rfl rfl
         simp only [Act.put, List.setIfInBounds_toArray, List.set_cons_zero, List.set_cons_succ] at hK
         go_simp
         first | exact hK.out _ _ hb1 hS rfl | (have hk := hK.out _ _ hb1 hS rfl; revert hk; go_simp)
        case io12C3x10 =>
         intro k1 w1 hk0 hk1 hb1 hS hd KK hK
         have d2 : x2 = .bool true := hd 2 (by kernel_rfl)
         clear hd
         subst d2
         have k0 := hS.c 4 0 rfl rfl
         simp only [Act.put, List.setIfInBounds_toArray, List.set_cons_zero, List.set_cons_succ] at hK
         go_simp
         first | exact hK.out _ _ hb1 hS rfl | (have hk := hK.out _ _ hb1 hS rfl; revert hk; go_simp)
        case io12C3x11 =>
         intro k1 w1 hk0 hk1 hb1 hS hd KK hK
         have d2 : x2 = .bool true := hd 2 (by kernel_rfl)
         have d9 : x9 = .slice (some ⟨gy, oy, none⟩) ys.length d := hd 9 (by kernel_rfl)
         have d10 : x10 = .int .i64 (bn : Int) := hd 10 (by kernel_rfl)
         clear hd
         subst d2
         subst d9
         subst d10
         simp only [Act.put, List.setIfInBounds_toArray, List.set_cons_zero, List.set_cons_succ] at hK
         go_simp
         first | exact hK.out _ _ hb1 hS rfl | (have hk := hK.out _ _ hb1 hS rfl; revert hk; go_simp)
        case io12C3x12 =>
         intro k1 w1 hk0 hk1 hb1 hS hd KK hK
         have d2 : x2 = .bool true := hd 2 (by kernel_rfl)
         have d11 : x11 = .pointer (some ⟨gy, oy + bn, none⟩) := hd 11 (by kernel_rfl)
         clear hd
         subst d2
         subst d11
         obtain ⟨b9, o9, he, _, hcx⟩ := (hS.l 1 rfl).cell bn hbn
         cases he
         rw [HYB.out] at hcx
         simp only [Act.put, List.setIfInBounds_toArray, List.set_cons_zero, List.set_cons_succ] at hK
         go_simp
         first | exact hK.out _ _ hb1 hS rfl | (have hk := hK.out _ _ hb1 hS rfl; revert hk; go_simp)
        case io12C3x13 =>
         intro k1 w1 hk0 hk1 hb1 hS hd KK hK
         have d2 : x2 = .bool true := hd 2 (by kernel_rfl)
         have d7 : x7 = .int .i64 yp := hd 7 (by kernel_rfl)
         have d12 : x12 = .int .i64 yb := hd 12 (by kernel_rfl)
         clear hd
         subst d2
         subst d7
         subst d12
         have dx := DL.out
         simp only [Act.put, List.setIfInBounds_toArray, List.set_cons_zero, List.set_cons_succ] at hK
         go_simp
         first | exact hK.out _ _ hb1 hS rfl | (have hk := hK.out _ _ hb1 hS rfl; revert hk; go_simp)
        case io12C3x14 =>
         intro k1 w1 hk0 hk1 hb1 hS hd KK hK
         have d2 : x2 = .bool true := hd 2 (by kernel_rfl)
         have d13 : x13 = .bool false := hd 13 (by kernel_rfl)
         clear hd
         subst d2
         subst d13
         simp only [Act.put, List.setIfInBounds_toArray, List.set_cons_zero, List.set_cons_succ] at hK
         go_simp
         first | exact hK.out _ _ hb1 hS rfl | (have hk := hK.out _ _ hb1 hS rfl; revert hk; go_simp)
        case io12C3x15 =>
         intro k1 w1 hk0 hk1 hb1 hS hd KK hK
         have d14 : x14 = .bool false := hd 14 (by kernel_rfl)
         clear hd
         subst d14
         simp only [Act.put, List.setIfInBounds_toArray, List.set_cons_zero, List.set_cons_succ] at hK
         go_simp
         first | exact hK.out _ _ hb1 hS rfl | (have hk := hK.out _ _ hb1 hS rfl; revert hk; go_simp)
        case io12C3x16 =>
         intro k1 w1 hk0 hk1 hb1 hS hd KK hK
         have d14 : x14 = .bool false := hd 14 (by kernel_rfl)
         have d15 : x15 = .pointer (some ⟨w.heap.size, 1, none⟩) := hd 15 (by kernel_rfl)
         clear hd
         subst d14
         subst d15
         have k0 := hS.c 0 0 rfl rfl
         have k1 := hS.c 0 1 rfl rfl
         simp only [Act.put, List.setIfInBounds_toArray, List.set_cons_zero, List.set_cons_succ] at hK
         go_simp
         first | exact hK.out _ _ hb1 hS rfl | (have hk := hK.out _ _ hb1 hS rfl; revert hk; go_simp)
        case io12C3x17 =>
         intro k1 w1 hk0 hk1 hb1 hS hd KK hK
         have d14 : x14 = .bool false := hd 14 (by kernel_rfl)
         clear hd
         subst d14
         simp only [Act.put, List.setIfInBounds_toArray, List.set_cons_zero, List.set_cons_succ] at hK
         go_simp
         first | exact hK.out _ _ hb1 hS rfl | (have hk := hK.out _ _ hb1 hS rfl; revert hk; go_simp)
        case io12C3x18 =>
         intro k1 w1 hk0 hk1 hb1 hS hd KK hK
         have d14 : x14 = .bool false := hd 14 (by kernel_rfl)
         have d16 : x16 = .slice (some ⟨gy, oy, none⟩) ys.length d := hd 16 (by kernel_rfl)
         have d17 : x17 = .int .i64 (pz : Int) := hd 17 (by kernel_rfl)
         clear hd
         subst d14
         subst d16
         subst d17
         simp only [Act.put, List.setIfInBounds_toArray, List.set_cons_zero, List.set_cons_succ] at hK
         go_simp
         first | exact hK.out _ _ hb1 hS rfl | (have hk := hK.out _ _ hb1 hS rfl; revert hk; go_simp)
        case io12C3x19 =>
         intro k1 w1 hk0 hk1 hb1 hS hd KK hK
         have d14 : x14 = .bool false := hd 14 (by kernel_rfl)
         have d18 : x18 = .pointer (some ⟨gy, oy + pz, none⟩) := hd 18 (by kernel_rfl)
         clear hd
         subst d14
         subst d18
         obtain ⟨b9, o9, he, _, hcx⟩ := (hS.l 1 rfl).cell pz hpz1
         cases he
         rw [HYP.out] at hcx
         simp only [Act.put, List.setIfInBounds_toArray, List.set_cons_zero, List.set_cons_succ] at hK
         go_simp
         first | exact hK.out _ _ hb1 hS rfl | (have hk := hK.out _ _ hb1 hS rfl; revert hk; go_simp)
        case io12C3x20 =>
         intro k1 w1 hk0 hk1 hb1 hS hd KK hK
         have d14 : x14 = .bool false := hd 14 (by kernel_rfl)
         clear hd
         subst d14
         simp only [Act.put, List.setIfInBounds_toArray, List.set_cons_zero, List.set_cons_succ] at hK
         go_simp
         first | exact hK.out _ _ hb1 hS rfl | (have hk := hK.out _ _ hb1 hS rfl; revert hk; go_simp)
        case io12C3x21 =>
         intro k1 w1 hk0 hk1 hb1 hS hd KK hK
         have d14 : x14 = .bool false := hd 14 (by kernel_rfl)
         have d20 : x20 = .pointer (some ⟨w.heap.size, 1, none⟩) := hd 20 (by kernel_rfl)
         clear hd
         subst d14
         subst d20
         have k0 := hS.c 0 0 rfl rfl
         have k1 := hS.c 0 1 rfl rfl
         simp only [Act.put, List.setIfInBounds_toArray, List.set_cons_zero, List.set_cons_succ] at hK
         go_simp
         first | exact hK.out _ _ hb1 hS rfl | (have hk := hK.out _ _ hb1 hS rfl; revert hk; go_simp)
        case io12C3x22 =>
         intro k1 w1 hk0 hk1 hb1 hS hd KK hK
         have d14 : x14 = .bool false := hd 14 (by kernel_rfl)
         clear hd
         subst d14
         have k0 := hS.c 4 0 rfl rfl
         simp only [Act.put, List.setIfInBounds_toArray, List.set_cons_zero, List.set_cons_succ] at hK
         go_simp
         first | exact hK.out _ _ hb1 hS rfl | (have hk := hK.out _ _ hb1 hS rfl; revert hk; go_simp)
        case io12C3x23 =>
         intro k1 w1 hk0 hk1 hb1 hS hd KK hK
         have d14 : x14 = .bool false := hd 14 (by kernel_rfl)
         have d21 : x21 = .slice (some ⟨gy, oy, none⟩) ys.length d := hd 21 (by kernel_rfl)
         have d22 : x22 = .int .i64 (bn : Int) := hd 22 (by kernel_rfl)
         clear hd
         subst d14
         subst d21
         subst d22
         simp only [Act.put, List.setIfInBounds_toArray, List.set_cons_zero, List.set_cons_succ] at hK
         go_simp
         first | exact hK.out _ _ hb1 hS rfl | (have hk := hK.out _ _ hb1 hS rfl; revert hk; go_simp)
        case io12C3x24 =>
         intro k1 w1 hk0 hk1 hb1 hS hd KK hK
         have d14 : x14 = .bool false := hd 14 (by kernel_rfl)
         have d23 : x23 = .pointer (some ⟨gy, oy + bn, none⟩) := hd 23 (by kernel_rfl)
         clear hd
         subst d14
         subst d23
         obtain ⟨b9, o9, he, _, hcx⟩ := (hS.l 1 rfl).cell bn hbn
         cases he
         rw [HYB.out] at hcx
         simp only [Act.put, List.setIfInBounds_toArray, List.set_cons_zero, List.set_cons_succ] at hK
         go_simp
         first | exact hK.out _ _ hb1 hS rfl | (have hk := hK.out _ _ hb1 hS rfl; revert hk; go_simp)
        case io12C3x25 =>
         intro k1 w1 hk0 hk1 hb1 hS hd KK hK
         have d14 : x14 = .bool false := hd 14 (by kernel_rfl)
         have d19 : x19 = .int .i64 yp := hd 19 (by kernel_rfl)
         have d24 : x24 = .int .i64 yb := hd 24 (by kernel_rfl)
         clear hd
         subst d14
         subst d19
         subst d24
         have dx := DE.out
         simp only [Act.put, List.setIfInBounds_toArray, List.set_cons_zero, List.set_cons_succ] at hK
         go_simp
         first | exact hK.out _ _ hb1 hS rfl | (have hk := hK.out _ _ hb1 hS rfl; revert hk; go_simp)
        case io12C3x26 =>
         intro k1 w1 hk0 hk1 hb1 hS hd KK hK
         have d14 : x14 = .bool false := hd 14 (by kernel_rfl)
         have d25 : x25 = .bool true := hd 25 (by kernel_rfl)
         clear hd
         subst d14
         subst d25
         simp only [Act.put, List.setIfInBounds_toArray, List.set_cons_zero, List.set_cons_succ] at hK
         go_simp
         first | exact hK.out _ _ hb1 hS rfl | (have hk := hK.out _ _ hb1 hS rfl; revert hk; go_simp)
        case io12C3x27 =>
         intro k1 w1 hk0 hk1 hb1 hS hd KK hK
         have d26 : x26 = .bool true := hd 26 (by kernel_rfl)
         clear hd
         subst d26
         simp only [Act.put, List.setIfInBounds_toArray, List.set_cons_zero, List.set_cons_succ] at hK
         go_simp
         first | exact hK.out _ _ hb1 hS rfl | (have hk := hK.out _ _ hb1 hS rfl; revert hk; go_simp)
        case io12C3x28 =>
         intro k1 w1 hk0 hk1 hb1 hS hd KK hK
         have d26 : x26 = .bool true := hd 26 (by kernel_rfl)
         clear hd
         subst d26
         have k0 := hS.c 4 0 rfl rfl
         simp only [Act.put, List.setIfInBounds_toArray, List.set_cons_zero, List.set_cons_succ] at hK
         go_simp
         first | exact hK.out _ _ hb1 hS rfl | (have hk := hK.out _ _ hb1 hS rfl; revert hk; go_simp)
        case io12C3x29 =>
         intro k1 w1 hk0 hk1 hb1 hS hd KK hK
         have d26 : x26 = .bool true := hd 26 (by kernel_rfl)
         have d27 : x27 = .int .i64 (pz : Int) := hd 27 (by kernel_rfl)
         have d28 : x28 = .int .i64 (bn : Int) := hd 28 (by kernel_rfl)
         clear hd
         subst d26
         subst d27
         subst d28
         have dx := DG.out
         simp only [Act.put, List.setIfInBounds_toArray, List.set_cons_zero, List.set_cons_succ] at hK
         go_simp
         first | exact hK.out _ _ hb1 hS rfl | (have hk := hK.out _ _ hb1 hS rfl; revert hk; go_simp)
        case io12C3x30 =>
         intro k1 w1 hk0 hk1 hb1 hS hd KK hK
         have d14 : x14 = .bool false := hd 14 (by kernel_rfl)
         have d26 : x26 = .bool true := hd 26 (by kernel_rfl)
         have d29 : x29 = .bool false := hd 29 (by kernel_rfl)
         clear hd
         subst d14
         subst d26
         subst d29
         simp only [Act.put, List.setIfInBounds_toArray, List.set_cons_zero, List.set_cons_succ] at hK
         go_simp
         first | exact hK.out _ _ hb1 hS rfl | (have hk := hK.out _ _ hb1 hS rfl; revert hk; go_simp)
        case io12C3x31 =>
         intro k1 w1 hk0 hk1 hb1 hS hd KK hK
         have d2 : x2 = .bool true := hd 2 (by kernel_rfl)
         have d14 : x14 = .bool false := hd 14 (by kernel_rfl)
         have d30 : x30 = .bool false := hd 30 (by kernel_rfl)
         clear hd
         subst d2
         subst d14
         subst d30
         simp only [Act.put, List.setIfInBounds_toArray, List.set_cons_zero, List.set_cons_succ] at hK
         go_simp
         first | exact hK.out _ _ hb1 hS rfl | (have hk := hK.out _ _ hb1 hS rfl; revert hk; go_simp)
        case io12C3x32 =>
         intro k1 w1 hk0 hk1 hb1 hS hd KK hK
         have d2 : x2 = .bool true := hd 2 (by kernel_rfl)
         have d31 : x31 = .bool false := hd 31 (by kernel_rfl)
         clear hd
         subst d2
         subst d31
         simp only [Act.put, List.setIfInBounds_toArray, List.set_cons_zero, List.set_cons_succ] at hK
         go_simp
         first | exact hK.out _ _ hb1 hS rfl | (have hk := hK.out _ _ hb1 hS rfl; revert hk; go_simp)
        case iend12C3 =>
         intro w1 hb1 hS hR
         have d0 : x0 = .int .i64 (bn : Int) := hR 0 (by decide)
         have d1 : x1 = .bool true := hR 1 (by decide)
         have d2 : x2 = .bool true := hR 2 (by decide)
         have d3 : x3 = .pointer (some ⟨w.heap.size, 1, none⟩) := hR 3 (by decide)
         have d4 : x4 = .slice (some ⟨gy, oy, none⟩) ys.length d := hR 4 (by decide)
         have d5 : x5 = .int .i64 (pz : Int) := hR 5 (by decide)
         have d6 : x6 = .pointer (some ⟨gy, oy + pz, none⟩) := hR 6 (by decide)
         have d7 : x7 = .int .i64 yp := hR 7 (by decide)
         have d8 : x8 = .pointer (some ⟨w.heap.size, 1, none⟩) := hR 8 (by decide)
         have d9 : x9 = .slice (some ⟨gy, oy, none⟩) ys.length d := hR 9 (by decide)
         have d10 : x10 = .int .i64 (bn : Int) := hR 10 (by decide)
         have d11 : x11 = .pointer (some ⟨gy, oy + bn, none⟩) := hR 11 (by decide)
         have d12 : x12 = .int .i64 yb := hR 12 (by decide)
         have d13 : x13 = .bool false := hR 13 (by decide)
         have d14 : x14 = .bool false := hR 14 (by decide)
         have d15 : x15 = .pointer (some ⟨w.heap.size, 1, none⟩) := hR 15 (by decide)
         have d16 : x16 = .slice (some ⟨gy, oy, none⟩) ys.length d := hR 16 (by decide)
         have d17 : x17 = .int .i64 (pz : Int) := hR 17 (by decide)
         have d18 : x18 = .pointer (some ⟨gy, oy + pz, none⟩) := hR 18 (by decide)
         have d19 : x19 = .int .i64 yp := hR 19 (by decide)
         have d20 : x20 = .pointer (some ⟨w.heap.size, 1, none⟩) := hR 20 (by decide)
         have d21 : x21 = .slice (some ⟨gy, oy, none⟩) ys.length d := hR 21 (by decide)
         have d22 : x22 = .int .i64 (bn : Int) := hR 22 (by decide)
         have d23 : x23 = .pointer (some ⟨gy, oy + bn, none⟩) := hR 23 (by decide)
         have d24 : x24 = .int .i64 yb := hR 24 (by decide)
         have d25 : x25 = .bool true := hR 25 (by decide)
         have d26 : x26 = .bool true := hR 26 (by decide)
         have d27 : x27 = .int .i64 (pz : Int) := hR 27 (by decide)
         have d28 : x28 = .int .i64 (bn : Int) := hR 28 (by decide)
         have d29 : x29 = .bool false := hR 29 (by decide)
         have d30 : x30 = .bool false := hR 30 (by decide)
         have d31 : x31 = .bool false := hR 31 (by decide)
         have d32 : x32 = .bool false := hR 32 (by decide)
         clear hR
         subst d0
         subst d1
         subst d2
         subst d3
         subst d4
         subst d5
         subst d6
         subst d7
         subst d8
         subst d9
         subst d10
         subst d11
         subst d12
         subst d13
         subst d14
         subst d15
         subst d16
         subst d17
         subst d18
         subst d19
         subst d20
         subst d21
         subst d22
         subst d23
         subst d24
         subst d25
         subst d26
         subst d27
         subst d28
         subst d29
         subst d30
         subst d31
         subst d32
         try simp only [putAll, Act.put, List.setIfInBounds_toArray, List.set_cons_zero, List.set_cons_succ]
         have G2 := Lib.hid hS
         have HK2 := Lib.hid (HKP.out.trans hb1)
         clear hS hb1 G1
         obtain ⟨V2, rfl⟩ : ∃ x : World, x = w1 := ⟨_, rfl⟩
         have q0 := G2.out.c 4 0 rfl rfl
         have qf0 := G2.out.f 4 0 rfl rfl
         (repeat gi_step)
         have G2b := G2.out.set 4 rfl (by simp) [.int .i64 (pz : Int)] rfl
         simp only [setL, Nat.reduceAdd, List.set_cons_zero, List.set_cons_succ] at G2b
         have G3 := G2b.putM 0 rfl (.loop (R .ready none)) rfl
         have HK3 := Lib.hid ((HK2.out.trans (Kept.of_grown (row := some Yb) (Go.Lib.grownBy_setCell V2 Yb 0 (.int .i64 (pz : Int))) (fun e he => by injection he with he; have := HJ.out.bB _ (List.mem_of_getElem? (i := 4) rfl); omega))).trans (Kept.putObj (D + 2) _ (D + 1) (.loop (R .ready none)) (by omega)))
         simp only [List.set_cons_zero, List.set_cons_succ] at G3
         have hj := HJ.out
         have e := HPK.out
         have e2 : bst ys (bn : Int) (pz : Int) = (pz : Int) := by unfold bst yAt; rw [if_neg (by rintro ⟨_, h | ⟨_, h⟩⟩; (simp only [Int.toNat_natCast] at h; rw [HYP.out, HYB.out] at h; omega); omega)]
         rw [e2] at e
         rw [e]
         refine ⟨G2b.m 0 rfl, HK3.out, ?_⟩
         exact ⟨G3, hj.lS, by have h9 := HK3.out.1; have h8 := hj.sz; exact Nat.le_trans h8 h9, by have h9 := hj.bB; simp only [List.mem_cons, List.not_mem_nil, or_false, forall_eq_or_imp, forall_eq] at h9 ⊢; exact h9, hj.bO, by have h9 := hj.bM; simp only [List.mem_cons, forall_eq_or_imp] at h9 ⊢; exact h9⟩
      ·skip
       have DE := Lib.hid (show (yp == yb) = false by simpa using heq)
       refine wpIn_region_inv (w := V) 33 (fun _ W2 => Kept (D + 2) V W2) (fun _ W => Fr w.heap.size w W [(w.heap.size, [.slice (some ⟨b0, o0, none⟩) xs.length c, .slice (some ⟨gy, oy, none⟩) ys.length d]), (w.heap.size + 1, [.slice aK wv.K.length cK, .slice aS wv.S.length cS, .slice aP wv.P.length cP, .slice aD wv.D.length cD]), (w.heap.size + 1 + 1, [.slice as_ S.length cs_, .slice (some ⟨gd, 0, none⟩) NN dd]), (Y7, [.slice (some ⟨b0, o0 + 2, none⟩) wv.L.length cL, .slice aK wv.K.length cK, .slice aO wv.O.length cO, .slice aK wv.K.length cK, .slice aS wv.S.length cS, .slice aP wv.P.length cP, .slice aD wv.D.length cD]), (Yb, [.int .i64 (bn : Int)]), (X1, [.slice (some ⟨b0, o0 + 2, none⟩) wv.L.length cL, .slice aK wv.K.length cK, .slice aO wv.O.length cO, .slice aK wv.K.length cK, .slice aS wv.S.length cS, .slice aP wv.P.length cP, .slice aD wv.D.length cD]), (X1 + 1, [.int .i64 (n : Int)]), (X1 + 1 + 1, [.int .i64 (M : Int)])] [(.i64, (some ⟨b0, o0, none⟩), xs), (.i64, (some ⟨gy, oy, none⟩), ys), (.i64, aK, wv.K), (.i64, aS, wv.S), (.i64, aP, wv.P), (.i64, aD, wv.D), (.i64, (some ⟨b0, o0 + 2, none⟩), wv.L)] [⟨3, .slice aO wv.O.length cO, wv.O.length, wv.O.map (Value.int .i64)⟩, ⟨3, .slice as1 S.length cs1, S.length, S.map (Value.int .i64)⟩, ⟨3, .slice as_ S.length cs_, S.length, S.map (Value.int .i64)⟩, ⟨2, .slice (some ⟨gd, 0, none⟩) NN dd, NN, LD⟩, ⟨3, .slice (some ⟨gp, 0, none⟩) NN NN, NN, LP⟩] ((D + 1, .loop (R .busy none)) :: (D, .deferred (some [])) :: mkM Ds)) [] [(fun u _ => u = .int .i64 (bn : Int)), (fun u _ => u = .bool true), (fun u _ => u = .bool true), (fun u _ => u = .pointer (some ⟨w.heap.size, 1, none⟩)), (fun u _ => u = .slice (some ⟨gy, oy, none⟩) ys.length d), (fun u _ => u = .int .i64 (pz : Int)), (fun u _ => u = .pointer (some ⟨gy, oy + pz, none⟩)), (fun u _ => u = .int .i64 yp), (fun u _ => u = .pointer (some ⟨w.heap.size, 1, none⟩)), (fun u _ => u = .slice (some ⟨gy, oy, none⟩) ys.length d), (fun u _ => u = .int .i64 (bn : Int)), (fun u _ => u = .pointer (some ⟨gy, oy + bn, none⟩)), (fun u _ => u = .int .i64 yb), (fun u _ => u = .bool false), (fun u _ => u = .bool false), (fun u _ => u = .pointer (some ⟨w.heap.size, 1, none⟩)), (fun u _ => u = .slice (some ⟨gy, oy, none⟩) ys.length d), (fun u _ => u = .int .i64 (pz : Int)), (fun u _ => u = .pointer (some ⟨gy, oy + pz, none⟩)), (fun u _ => u = .int .i64 yp), (fun u _ => u = .pointer (some ⟨w.heap.size, 1, none⟩)), (fun u _ => u = .slice (some ⟨gy, oy, none⟩) ys.length d), (fun u _ => u = .int .i64 (bn : Int)), (fun u _ => u = .pointer (some ⟨gy, oy + bn, none⟩)), (fun u _ => u = .int .i64 yb), (fun u _ => u = .bool false), (fun u _ => u = .bool false), (fun u _ => u = undef), (fun u _ => u = undef), (fun u _ => u = undef), (fun u _ => u = .bool false), (fun u _ => u = .bool false), (fun u _ => u = .bool false)] [some 39, some 40, some 41, some 42, some 43, some 44, some 45, some 46, some 47, some 48, some 49, some 50, some 51, some 52, some 53, some 54, some 55, some 56, some 57, some 58, some 59, some 60, some 61, some 62, some 63, some 64, some 65, some 66, some 67, some 68, some 69, some 70, some 71] (by kernel_rfl) (by kernel_rfl) rfl (by kernel_rfl) (by kernel_rfl) (by decide) (by decide) (fun _ h => h) (Kept.of_below (Below.drew (Below.refl _ _))) G1.out.drew (BorneAll.at (.cons (borne_eq _) (.cons (borne_eq _) (.cons (borne_eq _) (.cons (borne_eq _) (.cons (borne_eq _) (.cons (borne_eq _) (.cons (borne_eq _) (.cons (borne_eq _) (.cons (borne_eq _) (.cons (borne_eq _) (.cons (borne_eq _) (.cons (borne_eq _) (.cons (borne_eq _) (.cons (borne_eq _) (.cons (borne_eq _) (.cons (borne_eq _) (.cons (borne_eq _) (.cons (borne_eq _) (.cons (borne_eq _) (.cons (borne_eq _) (.cons (borne_eq _) (.cons (borne_eq _) (.cons (borne_eq _) (.cons (borne_eq _) (.cons (borne_eq _) (.cons (borne_eq _) (.cons (borne_eq _) (.cons (borne_eq _) (.cons (borne_eq _) (.cons (borne_eq _) (.cons (borne_eq _) (.cons (borne_eq _) (.cons (borne_eq _) .nil)))))))))))))))))))))))))))))))))) (fun vs b hvl hvb => ?_)
       obtain ⟨x0, x1, x2, x3, x4, x5, x6, x7, x8, x9, x10, x11, x12, x13, x14, x15, x16, x17, x18, x19, x20, x21, x22, x23, x24, x25, x26, x27, x28, x29, x30, x31, x32, rfl⟩ : ∃ x0 x1 x2 x3 x4 x5 x6 x7 x8 x9 x10 x11 x12 x13 x14 x15 x16 x17 x18 x19 x20 x21 x22 x23 x24 x25 x26 x27 x28 x29 x30 x31 x32, vs = [x0, x1, x2, x3, x4, x5, x6, x7, x8, x9, x10, x11, x12, x13, x14, x15, x16, x17, x18, x19, x20, x21, x22, x23, x24, x25, x26, x27, x28, x29, x30, x31, x32] := lw33 hvl
       clear hvl
       simp only [putAll, Act.put, List.setIfInBounds_toArray, List.set_cons_zero, List.set_cons_succ] at hvb
       subst hvb
       refine ⟨(.snoc (.snoc (.snoc (.snoc (.snoc (.snoc (.snoc (.snoc (.snoc (.snoc (.snoc (.snoc (.snoc (.snoc (.snoc (.snoc (.snoc (.snoc (.snoc (.snoc (.snoc (.snoc (.snoc (.snoc (.snoc (.snoc (.snoc (.snoc (.snoc (.snoc (.snoc (.snoc (.snoc .zero (InvObIn.intro (d := (some 39)) (r := fun u _ => u = .int .i64 (bn : Int)) 0 0 rfl rfl rfl (by kernel_rfl) (by kernel_rfl) rfl ?io12C1x0)) (InvObIn.intro (d := (some 40)) (r := fun u _ => u = .bool true) 0 0 rfl rfl rfl (by kernel_rfl) (by kernel_rfl) rfl ?io12C1x1)) (InvObIn.intro (d := (some 41)) (r := fun u _ => u = .bool true) 0 0 rfl rfl rfl (by kernel_rfl) (by kernel_rfl) rfl ?io12C1x2)) (InvObIn.intro (d := (some 42)) (r := fun u _ => u = .pointer (some ⟨w.heap.size, 1, none⟩)) 0 0 rfl rfl rfl (by kernel_rfl) (by kernel_rfl) rfl ?io12C1x3)) (InvObIn.intro (d := (some 43)) (r := fun u _ => u = .slice (some ⟨gy, oy, none⟩) ys.length d) 0 0 rfl rfl rfl (by kernel_rfl) (by kernel_rfl) rfl ?io12C1x4)) (InvObIn.intro (d := (some 44)) (r := fun u _ => u = .int .i64 (pz : Int)) 0 0 rfl rfl rfl (by kernel_rfl) (by kernel_rfl) rfl ?io12C1x5)) (InvObIn.intro (d := (some 45)) (r := fun u _ => u = .pointer (some ⟨gy, oy + pz, none⟩)) 0 0 rfl rfl rfl (by kernel_rfl) (by kernel_rfl) rfl ?io12C1x6)) (InvObIn.intro (d := (some 46)) (r := fun u _ => u = .int .i64 yp) 0 0 rfl rfl rfl (by kernel_rfl) (by kernel_rfl) rfl ?io12C1x7)) (InvObIn.intro (d := (some 47)) (r := fun u _ => u = .pointer (some ⟨w.heap.size, 1, none⟩)) 0 0 rfl rfl rfl (by kernel_rfl) (by kernel_rfl) rfl ?io12C1x8)) (InvObIn.intro (d := (some 48)) (r := fun u _ => u = .slice (some ⟨gy, oy, none⟩) ys.length d) 0 0 rfl rfl rfl (by kernel_rfl) (by kernel_rfl) rfl ?io12C1x9)) (InvObIn.intro (d := (some 49)) (r := fun u _ => u = .int .i64 (bn : Int)) 0 0 rfl rfl rfl (by kernel_rfl) (by kernel_rfl) rfl ?io12C1x10)) (InvObIn.intro (d := (some 50)) (r := fun u _ => u = .pointer (some ⟨gy, oy + bn, none⟩)) 0 0 rfl rfl rfl (by kernel_rfl) (by kernel_rfl) rfl ?io12C1x11)) (InvObIn.intro (d := (some 51)) (r := fun u _ => u = .int .i64 yb) 0 0 rfl rfl rfl (by kernel_rfl) (by kernel_rfl) rfl ?io12C1x12)) (InvObIn.intro (d := (some 52)) (r := fun u _ => u = .bool false) 0 0 rfl rfl rfl (by kernel_rfl) (by kernel_rfl) rfl ?io12C1x13)) (InvObIn.intro (d := (some 53)) (r := fun u _ => u = .bool false) 0 0 rfl rfl rfl (by kernel_rfl) (by kernel_rfl) rfl ?io12C1x14)) (InvObIn.intro (d := (some 54)) (r := fun u _ => u = .pointer (some ⟨w.heap.size, 1, none⟩)) 0 0 rfl rfl rfl (by kernel_rfl) (by kernel_rfl) rfl ?io12C1x15)) (InvObIn.intro (d := (some 55)) (r := fun u _ => u = .slice (some ⟨gy, oy, none⟩) ys.length d) 0 0 rfl rfl rfl (by kernel_rfl) (by kernel_rfl) rfl ?io12C1x16)) (InvObIn.intro (d := (some 56)) (r := fun u _ => u = .int .i64 (pz : Int)) 0 0 rfl rfl rfl (by kernel_rfl) (by kernel_rfl) rfl ?io12C1x17)) (InvObIn.intro (d := (some 57)) (r := fun u _ => u = .pointer (some ⟨gy, oy + pz, none⟩)) 0 0 rfl rfl rfl (by kernel_rfl) (by kernel_rfl) rfl ?io12C1x18)) (InvObIn.intro (d := (some 58)) (r := fun u _ => u = .int .i64 yp) 0 0 rfl rfl rfl (by kernel_rfl) (by kernel_rfl) rfl ?io12C1x19)) (InvObIn.intro (d := (some 59)) (r := fun u _ => u = .pointer (some ⟨w.heap.size, 1, none⟩)) 0 0 rfl rfl rfl (by kernel_rfl) (by kernel_rfl) rfl ?io12C1x20)) (InvObIn.intro (d := (some 60)) (r := fun u _ => u = .slice (some ⟨gy, oy, none⟩) ys.length d) 0 0 rfl rfl rfl (by kernel_rfl) (by kernel_rfl) rfl ?io12C1x21)) (InvObIn.intro (d := (some 61)) (r := fun u _ => u = .int .i64 (bn : Int)) 0 0 rfl rfl rfl (by kernel_rfl) (by kernel_rfl) rfl ?io12C1x22)) (InvObIn.intro (d := (some 62)) (r := fun u _ => u = .pointer (some ⟨gy, oy + bn, none⟩)) 0 0 rfl rfl rfl (by kernel_rfl) (by kernel_rfl) rfl ?io12C1x23)) (InvObIn.intro (d := (some 63)) (r := fun u _ => u = .int .i64 yb) 0 0 rfl rfl rfl (by kernel_rfl) (by kernel_rfl) rfl ?io12C1x24)) (InvObIn.intro (d := (some 64)) (r := fun u _ => u = .bool false) 0 0 rfl rfl rfl (by kernel_rfl) (by kernel_rfl) rfl ?io12C1x25)) (InvObIn.intro (d := (some 65)) (r := fun u _ => u = .bool false) 0 0 rfl rfl rfl (by kernel_rfl) (by kernel_rfl) rfl ?io12C1x26)) (InvObIn.intro (d := (some 66)) (r := fun u _ => u = undef) 0 0 rfl rfl rfl (by kernel_rfl) (by kernel_rfl) rfl ?io12C1x27)) (InvObIn.intro (d := (some 67)) (r := fun u _ => u = undef) 0 0 rfl rfl rfl (by kernel_rfl) (by kernel_rfl) rfl ?io12C1x28)) (InvObIn.intro (d := (some 68)) (r := fun u _ => u = undef) 0 0 rfl rfl rfl (by kernel_rfl) (by kernel_rfl) rfl ?io12C1x29)) (InvObIn.intro (d := (some 69)) (r := fun u _ => u = .bool false) 0 0 rfl rfl rfl (by kernel_rfl) (by kernel_rfl) rfl ?io12C1x30)) (InvObIn.intro (d := (some 70)) (r := fun u _ => u = .bool false) 0 0 rfl rfl rfl (by kernel_rfl) (by kernel_rfl) rfl ?io12C1x31)) (InvObIn.intro (d := (some 71)) (r := fun u _ => u = .bool false) 0 0 rfl rfl rfl (by kernel_rfl) (by kernel_rfl) rfl ?io12C1x32)), ?iend12C1⟩
       case io12C1x0 =>
        intro k1 w1 hk0 hk1 hb1 hS hd KK hK
        clear hd
        have k0 := hS.c 4 0 rfl rfl
        simp only [Act.put, List.setIfInBounds_toArray, List.set_cons_zero, List.set_cons_succ] at hK
        go_simp
        first | exact hK.out _ _ hb1 hS rfl | (have hk := hK.out _ _ hb1 hS rfl; revert hk; go_simp)
       case io12C1x1 =>
        intro k1 w1 hk0 hk1 hb1 hS hd KK hK
        have d0 : x0 = .int .i64 (bn : Int) := hd 0 (by kernel_rfl)
        clear hd
        subst d0
        have dx := DB.out
        simp only [Act.put, List.setIfInBounds_toArray, List.set_cons_zero, List.set_cons_succ] at hK
        go_simp
        first | exact hK.out _ _ hb1 hS rfl | (have hk := hK.out _ _ hb1 hS rfl; revert hk; go_simp)
       case io12C1x2 =>
        intro k1 w1 hk0 hk1 hb1 hS hd KK hK
        have d1 : x1 = .bool true := hd 1 (by kernel_rfl)
        clear hd
        subst d1
        simp only [Act.put, List.setIfInBounds_toArray, List.set_cons_zero, List.set_cons_succ] at hK
        go_simp
        first | exact hK.out _ _ hb1 hS rfl | (have hk := hK.out _ _ hb1 hS rfl; revert hk; go_simp)
       case io12C1x3 =>
        intro k1 w1 hk0 hk1 hb1 hS hd KK hK
        have d2 : x2 = .bool true := hd 2 (by kernel_rfl)
        clear hd
        subst d2
        simp only [Act.put, List.setIfInBounds_toArray, List.set_cons_zero, List.set_cons_succ] at hK
        go_simp
        first | exact hK.out _ _ hb1 hS rfl | (have hk := hK.out _ _ hb1 hS rfl; revert hk; go_simp)
       case io12C1x4 =>
        intro k1 w1 hk0 hk1 hb1 hS hd KK hK
        have d2 : x2 = .bool true := hd 2 (by kernel_rfl)
        have d3 : x3 = .pointer (some ⟨w.heap.size, 1, none⟩) := hd 3 (by kernel_rfl)
        clear hd
        subst d2
        subst d3
        have k0 := hS.c 0 0 rfl rfl
        have k1 := hS.c 0 1 rfl rfl
        simp only [Act.put, List.setIfInBounds_toArray, List.set_cons_zero, List.set_cons_succ] at hK
        go_simp
        first | exact hK.out _ _ hb1 hS rfl | (have hk := hK.out _ _ hb1 hS rfl; revert hk; go_simp)
       case io12C1x5 =>
        intro k1 w1 hk0 hk1 hb1 hS hd KK hK
        have d2 : x2 = .bool true := hd 2 (by kernel_rfl)
        clear hd
        subst d2
        simp only [Act.put, List.setIfInBounds_toArray, List.set_cons_zero, List.set_cons_succ] at hK
        go_simp
        first | exact hK.out _ _ hb1 hS rfl | (have hk := hK.out _ _ hb1 hS rfl; revert hk; go_simp)
       case io12C1x6 =>
        intro k1 w1 hk0 hk1 hb1 hS hd KK hK
        have d2 : x2 = .bool true := hd 2 (by kernel_rfl)
        have d4 : x4 = .slice (some ⟨gy, oy, none⟩) ys.length d := hd 4 (by kernel_rfl)
        have d5 : x5 = .int .i64 (pz : Int) := hd 5 (by kernel_rfl)
        clear hd
        subst d2
        subst d4
        subst d5
        simp only [Act.put, List.setIfInBounds_toArray, List.set_cons_zero, List.set_cons_succ] at hK
        go_simp
        first | exact hK.out _ _ hb1 hS rfl | (have hk := hK.out _ _ hb1 hS rfl; revert hk; go_simp)
       case io12C1x7 =>
        intro k1 w1 hk0 hk1 hb1 hS hd KK hK
        have d2 : x2 = .bool true := hd 2 (by kernel_rfl)
        have d6 : x6 = .pointer (some ⟨gy, oy + pz, none⟩) := hd 6 (by kernel_rfl)
        clear hd
        subst d2
        subst d6
        obtain ⟨b9, o9, he, _, hcx⟩ := (hS.l 1 rfl).cell pz hpz1
        cases he
        rw [HYP.out] at hcx
        simp only [Act.put, List.setIfInBounds_toArray, List.set_cons_zero, List.set_cons_succ] at hK
        go_simp
        first | exact hK.out _ _ hb1 hS rfl | (have hk := hK.out _ _ hb1 hS rfl; revert hk; go_simp)
       case io12C1x8 =>
        intro k1 w1 hk0 hk1 hb1 hS hd KK hK
        have d2 : x2 = .bool true := hd 2 (by kernel_rfl)
        clear hd
        subst d2
        simp only [Act.put, List.setIfInBounds_toArray, List.set_cons_zero, List.set_cons_succ] at hK
        go_simp
        first | exact hK.out _ _ hb1 hS rfl | (have hk := hK.out _ _ hb1 hS rfl; revert hk; go_simp)
       case io12C1x9 =>
        intro k1 w1 hk0 hk1 hb1 hS hd KK hK
        have d2 : x2 = .bool true := hd 2 (by kernel_rfl)
        have d8 : x8 = .pointer (some ⟨w.heap.size, 1, none⟩) := hd 8 (by kernel_rfl)
        clear hd
        subst d2
        subst d8
        have k0 := hS.c 0 0 rfl rfl
        have k1 := hS.c 0 1 rfl rfl
        simp only [Act.put, List.setIfInBounds_toArray, List.set_cons_zero, List.set_cons_succ] at hK
        go_simp
        first | exact hK.out _ _ hb1 hS rfl | (have hk := hK.out _ _ hb1 hS rfl; revert hk; go_simp)
       case io12C1x10 =>
        intro k1 w1 hk0 hk1 hb1 hS hd KK hK
        have d2 : x2 = .bool true := hd 2 (by kernel_rfl)
        clear hd
        subst d2
        have k0 := hS.c 4 0 rfl rfl
        simp only [Act.put, List.setIfInBounds_toArray, List.set_cons_zero, List.set_cons_succ] at hK
        go_simp
        first | exact hK.out _ _ hb1 hS rfl | (have hk := hK.out _ _ hb1 hS rfl; revert hk; go_simp)
       case io12C1x11 =>
        intro k1 w1 hk0 hk1 hb1 hS hd KK hK
        have d2 : x2 = .bool true := hd 2 (by kernel_rfl)
        have d9 : x9 = .slice (some ⟨gy, oy, none⟩) ys.length d := hd 9 (by kernel_rfl)
        have d10 : x10 = .int .i64 (bn : Int) := hd 10 (by kernel_rfl)
        clear hd
        subst d2
        subst d9
        subst d10
        simp only [Act.put, List.setIfInBounds_toArray, List.set_cons_zero, List.set_cons_succ] at hK
        go_simp
        first | exact hK.out _ _ hb1 hS rfl | (have hk := hK.out _ _ hb1 hS rfl; revert hk; go_simp)
       case io12C1x12 =>
        intro k1 w1 hk0 hk1 hb1 hS hd KK hK
        have d2 : x2 = .bool true := hd 2 (by kernel_rfl)
        have d11 : x11 = .pointer (some ⟨gy, oy + bn, none⟩) := hd 11 (by kernel_rfl)
        clear hd
        subst d2
        subst d11
        obtain ⟨b9, o9, he, _, hcx⟩ := (hS.l 1 rfl).cell bn hbn
        cases he
        rw [HYB.out] at hcx
        simp only [Act.put, List.setIfInBounds_toArray, List.set_cons_zero, List.set_cons_succ] at hK
        go_simp
        first | exact hK.out _ _ hb1 hS rfl | (have hk := hK.out _ _ hb1 hS rfl; revert hk; go_simp)
       case io12C1x13 =>
        intro k1 w1 hk0 hk1 hb1 hS hd KK hK
        have d2 : x2 = .bool true := hd 2 (by kernel_rfl)
        have d7 : x7 = .int .i64 yp := hd 7 (by kernel_rfl)
        have d12 : x12 = .int .i64 yb := hd 12 (by kernel_rfl)
        clear hd
        subst d2
        subst d7
        subst d12
        have dx := DL.out
        simp only [Act.put, List.setIfInBounds_toArray, List.set_cons_zero, List.set_cons_succ] at hK
        go_simp
        first | exact hK.out _ _ hb1 hS rfl | (have hk := hK.out _ _ hb1 hS rfl; revert hk; go_simp)
       case io12C1x14 =>
        intro k1 w1 hk0 hk1 hb1 hS hd KK hK
        have d2 : x2 = .bool true := hd 2 (by kernel_rfl)
        have d13 : x13 = .bool false := hd 13 (by kernel_rfl)
        clear hd
        subst d2
        subst d13
        simp only [Act.put, List.setIfInBounds_toArray, List.set_cons_zero, List.set_cons_succ] at hK
        go_simp
        first | exact hK.out _ _ hb1 hS rfl | (have hk := hK.out _ _ hb1 hS rfl; revert hk; go_simp)
       case io12C1x15 =>
        intro k1 w1 hk0 hk1 hb1 hS hd KK hK
        have d14 : x14 = .bool false := hd 14 (by kernel_rfl)
        clear hd
        subst d14
        simp only [Act.put, List.setIfInBounds_toArray, List.set_cons_zero, List.set_cons_succ] at hK
        go_simp
        first | exact hK.out _ _ hb1 hS rfl | (have hk := hK.out _ _ hb1 hS rfl; revert hk; go_simp)
       case io12C1x16 =>
        intro k1 w1 hk0 hk1 hb1 hS hd KK hK
        have d14 : x14 = .bool false := hd 14 (by kernel_rfl)
        have d15 : x15 = .pointer (some ⟨w.heap.size, 1, none⟩) := hd 15 (by kernel_rfl)
        clear hd
        subst d14
        subst d15
        have k0 := hS.c 0 0 rfl rfl
        have k1 := hS.c 0 1 rfl rfl
        simp only [Act.put, List.setIfInBounds_toArray, List.set_cons_zero, List.set_cons_succ] at hK
        go_simp
        first | exact hK.out _ _ hb1 hS rfl | (have hk := hK.out _ _ hb1 hS rfl; revert hk; go_simp)
       case io12C1x17 =>
        intro k1 w1 hk0 hk1 hb1 hS hd KK hK
        have d14 : x14 = .bool false := hd 14 (by kernel_rfl)
        clear hd
        subst d14
        simp only [Act.put, List.setIfInBounds_toArray, List.set_cons_zero, List.set_cons_succ] at hK
        go_simp
        first | exact hK.out _ _ hb1 hS rfl | (have hk := hK.out _ _ hb1 hS rfl; revert hk; go_simp)
       case io12C1x18 =>
        intro k1 w1 hk0 hk1 hb1 hS hd KK hK
        have d14 : x14 = .bool false := hd 14 (by kernel_rfl)
        have d16 : x16 = .slice (some ⟨gy, oy, none⟩) ys.length d := hd 16 (by kernel_rfl)
        have d17 : x17 = .int .i64 (pz : Int) := hd 17 (by kernel_rfl)
        clear hd
        subst d14
        subst d16
        subst d17
        simp only [Act.put, List.setIfInBounds_toArray, List.set_cons_zero, List.set_cons_succ] at hK
        go_simp
        first | exact hK.out _ _ hb1 hS rfl | (have hk := hK.out _ _ hb1 hS rfl; revert hk; go_simp)
       case io12C1x19 =>
        intro k1 w1 hk0 hk1 hb1 hS hd KK hK
        have d14 : x14 = .bool false := hd 14 (by kernel_rfl)
        have d18 : x18 = .pointer (some ⟨gy, oy + pz, none⟩) := hd 18 (by kernel_rfl)
        clear hd
        subst d14
        subst d18
        obtain ⟨b9, o9, he, _, hcx⟩ := (hS.l 1 rfl).cell pz hpz1
        cases he
        rw [HYP.out] at hcx
        simp only [Act.put, List.setIfInBounds_toArray, List.set_cons_zero, List.set_cons_succ] at hK
        go_simp
        first | exact hK.out _ _ hb1 hS rfl | (have hk := hK.out _ _ hb1 hS rfl; revert hk; go_simp)
       case io12C1x20 =>
        intro k1 w1 hk0 hk1 hb1 hS hd KK hK
        have d14 : x14 = .bool false := hd 14 (by kernel_rfl)
        clear hd
        subst d14
        simp only [Act.put, List.setIfInBounds_toArray, List.set_cons_zero, List.set_cons_succ] at hK
        go_simp
        first | exact hK.out _ _ hb1 hS rfl | (have hk := hK.out _ _ hb1 hS rfl; revert hk; go_simp)
       case io12C1x21 =>
        intro k1 w1 hk0 hk1 hb1 hS hd KK hK
        have d14 : x14 = .bool false := hd 14 (by kernel_rfl)
        have d20 : x20 = .pointer (some ⟨w.heap.size, 1, none⟩) := hd 20 (by kernel_rfl)
        clear hd
        subst d14
        subst d20
        have k0 := hS.c 0 0 rfl rfl
        have k1 := hS.c 0 1 rfl rfl
        simp only [Act.put, List.setIfInBounds_toArray, List.set_cons_zero, List.set_cons_succ] at hK
        go_simp
        first | exact hK.out _ _ hb1 hS rfl | (have hk := hK.out _ _ hb1 hS rfl; revert hk; go_simp)
       case io12C1x22 =>
        intro k1 w1 hk0 hk1 hb1 hS hd KK hK
        have d14 : x14 = .bool false := hd 14 (by kernel_rfl)
        clear hd
        subst d14
        have k0 := hS.c 4 0 rfl rfl
        simp only [Act.put, List.setIfInBounds_toArray, List.set_cons_zero, List.set_cons_succ] at hK
        go_simp
        first | exact hK.out _ _ hb1 hS rfl | (have hk := hK.out _ _ hb1 hS rfl; revert hk; go_simp)
       case io12C1x23 =>
        intro k1 w1 hk0 hk1 hb1 hS hd KK hK
        have d14 : x14 = .bool false := hd 14 (by kernel_rfl)
        have d21 : x21 = .slice (some ⟨gy, oy, none⟩) ys.length d := hd 21 (by kernel_rfl)
        have d22 : x22 = .int .i64 (bn : Int) := hd 22 (by kernel_rfl)
        clear hd
        subst d14
        subst d21
        subst d22
        simp only [Act.put, List.setIfInBounds_toArray, List.set_cons_zero, List.set_cons_succ] at hK
        go_simp
        first | exact hK.out _ _ hb1 hS rfl | (have hk := hK.out _ _ hb1 hS rfl; revert hk; go_simp)
       case io12C1x24 =>
        intro k1 w1 hk0 hk1 hb1 hS hd KK hK
        have d14 : x14 = .bool false := hd 14 (by kernel_rfl)
        have d23 : x23 = .pointer (some ⟨gy, oy + bn, none⟩) := hd 23 (by kernel_rfl)
        clear hd
        subst d14
        subst d23
        obtain ⟨b9, o9, he, _, hcx⟩ := (hS.l 1 rfl).cell bn hbn
        cases he
        rw [HYB.out] at hcx
        simp only [Act.put, List.setIfInBounds_toArray, List.set_cons_zero, List.set_cons_succ] at hK
        go_simp
        first | exact hK.out _ _ hb1 hS rfl | (have hk := hK.out _ _ hb1 hS rfl; revert hk; go_simp)
       case io12C1x25 =>
        intro k1 w1 hk0 hk1 hb1 hS hd KK hK
        have d14 : x14 = .bool false := hd 14 (by kernel_rfl)
        have d19 : x19 = .int .i64 yp := hd 19 (by kernel_rfl)
        have d24 : x24 = .int .i64 yb := hd 24 (by kernel_rfl)
        clear hd
        subst d14
        subst d19
        subst d24
        have dx := DE.out
        simp only [Act.put, List.setIfInBounds_toArray, List.set_cons_zero, List.set_cons_succ] at hK
        go_simp
        first | exact hK.out _ _ hb1 hS rfl | (have hk := hK.out _ _ hb1 hS rfl; revert hk; go_simp)
       case io12C1x26 =>
        intro k1 w1 hk0 hk1 hb1 hS hd KK hK
        have d14 : x14 = .bool false := hd 14 (by kernel_rfl)
        have d25 : x25 = .bool false := hd 25 (by kernel_rfl)
        clear hd
        subst d14
        subst d25
        simp only [Act.put, List.setIfInBounds_toArray, List.set_cons_zero, List.set_cons_succ] at hK
        go_simp
        first | exact hK.out _ _ hb1 hS rfl | (have hk := hK.out _ _ hb1 hS rfl; revert hk; go_simp)
       case io12C1x27 =>
        intro k1 w1 hk0 hk1 hb1 hS hd KK hK
        have d26 : x26 = .bool false := hd 26 (by kernel_rfl)
        clear hd
        subst d26
        simp only [Act.put, List.setIfInBounds_toArray, List.set_cons_zero, List.set_cons_succ] at hK
        go_simp
        first | exact hK.out _ _ hb1 hS rfl | (have hk := hK.out _ _ hb1 hS rfl; revert hk; go_simp)
       case io12C1x28 =>
        intro k1 w1 hk0 hk1 hb1 hS hd KK hK
        have d26 : x26 = .bool false := hd 26 (by kernel_rfl)
        clear hd
        subst d26
        simp only [Act.put, List.setIfInBounds_toArray, List.set_cons_zero, List.set_cons_succ] at hK
        go_simp
        first | exact hK.out _ _ hb1 hS rfl | (have hk := hK.out _ _ hb1 hS rfl; revert hk; go_simp)
       case io12C1x29 =>
        intro k1 w1 hk0 hk1 hb1 hS hd KK hK
        have d26 : x26 = .bool false := hd 26 (by kernel_rfl)
        have d27 : x27 = undef := hd 27 (by kernel_rfl)
        have d28 : x28 = undef := hd 28 (by kernel_rfl)
        clear hd
        subst d26
        subst d27
        subst d28
        simp only [Act.put, List.setIfInBounds_toArray, List.set_cons_zero, List.set_cons_succ] at hK
        go_simp
        first | exact hK.out _ _ hb1 hS rfl | (have hk := hK.out _ _ hb1 hS rfl; revert hk; go_simp)
       case io12C1x30 =>
        intro k1 w1 hk0 hk1 hb1 hS hd KK hK
        have d14 : x14 = .bool false := hd 14 (by kernel_rfl)
        have d26 : x26 = .bool false := hd 26 (by kernel_rfl)
        have d29 : x29 = undef := hd 29 (by kernel_rfl)
        clear hd
        subst d14
        subst d26
        subst d29
        simp only [Act.put, List.setIfInBounds_toArray, List.set_cons_zero, List.set_cons_succ] at hK
        go_simp
        first | exact hK.out _ _ hb1 hS rfl | (have hk := hK.out _ _ hb1 hS rfl; revert hk; go_simp)
       case io12C1x31 =>
        intro k1 w1 hk0 hk1 hb1 hS hd KK hK
        have d2 : x2 = .bool true := hd 2 (by kernel_rfl)
        have d14 : x14 = .bool false := hd 14 (by kernel_rfl)
        have d30 : x30 = .bool false := hd 30 (by kernel_rfl)
        clear hd
        subst d2
        subst d14
        subst d30
        simp only [Act.put, List.setIfInBounds_toArray, List.set_cons_zero, List.set_cons_succ] at hK
        go_simp
        first | exact hK.out _ _ hb1 hS rfl | (have hk := hK.out _ _ hb1 hS rfl; revert hk; go_simp)
       case io12C1x32 =>
        intro k1 w1 hk0 hk1 hb1 hS hd KK hK
        have d2 : x2 = .bool true := hd 2 (by kernel_rfl)
        have d31 : x31 = .bool false := hd 31 (by kernel_rfl)
        clear hd
        subst d2
        subst d31
        simp only [Act.put, List.setIfInBounds_toArray, List.set_cons_zero, List.set_cons_succ] at hK
        go_simp
        first | exact hK.out _ _ hb1 hS rfl | (have hk := hK.out _ _ hb1 hS rfl; revert hk; go_simp)
       case iend12C1 =>
        intro w1 hb1 hS hR
        have d0 : x0 = .int .i64 (bn : Int) := hR 0 (by decide)
        have d1 : x1 = .bool true := hR 1 (by decide)
        have d2 : x2 = .bool true := hR 2 (by decide)
        have d3 : x3 = .pointer (some ⟨w.heap.size, 1, none⟩) := hR 3 (by decide)
        have d4 : x4 = .slice (some ⟨gy, oy, none⟩) ys.length d := hR 4 (by decide)
        have d5 : x5 = .int .i64 (pz : Int) := hR 5 (by decide)
        have d6 : x6 = .pointer (some ⟨gy, oy + pz, none⟩) := hR 6 (by decide)
        have d7 : x7 = .int .i64 yp := hR 7 (by decide)
        have d8 : x8 = .pointer (some ⟨w.heap.size, 1, none⟩) := hR 8 (by decide)
        have d9 : x9 = .slice (some ⟨gy, oy, none⟩) ys.length d := hR 9 (by decide)
        have d10 : x10 = .int .i64 (bn : Int) := hR 10 (by decide)
        have d11 : x11 = .pointer (some ⟨gy, oy + bn, none⟩) := hR 11 (by decide)
        have d12 : x12 = .int .i64 yb := hR 12 (by decide)
        have d13 : x13 = .bool false := hR 13 (by decide)
        have d14 : x14 = .bool false := hR 14 (by decide)
        have d15 : x15 = .pointer (some ⟨w.heap.size, 1, none⟩) := hR 15 (by decide)
        have d16 : x16 = .slice (some ⟨gy, oy, none⟩) ys.length d := hR 16 (by decide)
        have d17 : x17 = .int .i64 (pz : Int) := hR 17 (by decide)
        have d18 : x18 = .pointer (some ⟨gy, oy + pz, none⟩) := hR 18 (by decide)
        have d19 : x19 = .int .i64 yp := hR 19 (by decide)
        have d20 : x20 = .pointer (some ⟨w.heap.size, 1, none⟩) := hR 20 (by decide)
        have d21 : x21 = .slice (some ⟨gy, oy, none⟩) ys.length d := hR 21 (by decide)
        have d22 : x22 = .int .i64 (bn : Int) := hR 22 (by decide)
        have d23 : x23 = .pointer (some ⟨gy, oy + bn, none⟩) := hR 23 (by decide)
        have d24 : x24 = .int .i64 yb := hR 24 (by decide)
        have d25 : x25 = .bool false := hR 25 (by decide)
        have d26 : x26 = .bool false := hR 26 (by decide)
        have d27 : x27 = undef := hR 27 (by decide)
        have d28 : x28 = undef := hR 28 (by decide)
        have d29 : x29 = undef := hR 29 (by decide)
        have d30 : x30 = .bool false := hR 30 (by decide)
        have d31 : x31 = .bool false := hR 31 (by decide)
        have d32 : x32 = .bool false := hR 32 (by decide)
        clear hR
        subst d0
        subst d1
        subst d2
        subst d3
        subst d4
        subst d5
        subst d6
        subst d7
        subst d8
        subst d9
        subst d10
        subst d11
        subst d12
        subst d13
        subst d14
        subst d15
        subst d16
        subst d17
        subst d18
        subst d19
        subst d20
        subst d21
        subst d22
        subst d23
        subst d24
        subst d25
        subst d26
        subst d27
        subst d28
        subst d29
        subst d30
        subst d31
        subst d32
        try simp only [putAll, Act.put, List.setIfInBounds_toArray, List.set_cons_zero, List.set_cons_succ]
        have G2 := Lib.hid hS
        have HK2 := Lib.hid (HKP.out.trans hb1)
        clear hS hb1 G1
        obtain ⟨V2, rfl⟩ : ∃ x : World, x = w1 := ⟨_, rfl⟩
        have q0 := G2.out.c 4 0 rfl rfl
        have qf0 := G2.out.f 4 0 rfl rfl
        (repeat gi_step)
        have G2b := G2.out.set 4 rfl (by simp) [.int .i64 (pz : Int)] rfl
        simp only [setL, Nat.reduceAdd, List.set_cons_zero, List.set_cons_succ] at G2b
        have G3 := G2b.putM 0 rfl (.loop (R .ready none)) rfl
        have HK3 := Lib.hid ((HK2.out.trans (Kept.of_grown (row := some Yb) (Go.Lib.grownBy_setCell V2 Yb 0 (.int .i64 (pz : Int))) (fun e he => by injection he with he; have := HJ.out.bB _ (List.mem_of_getElem? (i := 4) rfl); omega))).trans (Kept.putObj (D + 2) _ (D + 1) (.loop (R .ready none)) (by omega)))
        simp only [List.set_cons_zero, List.set_cons_succ] at G3
        have hj := HJ.out
        have e := HPK.out
        have e2 : bst ys (bn : Int) (pz : Int) = (pz : Int) := by unfold bst yAt; rw [if_neg (by rintro ⟨_, h | ⟨h, _⟩⟩ <;> (simp only [Int.toNat_natCast] at h; rw [HYP.out, HYB.out] at h; omega))]
        rw [e2] at e
        rw [e]
        refine ⟨G2b.m 0 rfl, HK3.out, ?_⟩
        exact ⟨G3, hj.lS, by have h9 := HK3.out.1; have h8 := hj.sz; exact Nat.le_trans h8 h9, by have h9 := hj.bB; simp only [List.mem_cons, List.not_mem_nil, or_false, forall_eq_or_imp, forall_eq] at h9 ⊢; exact h9, hj.bO, by have h9 := hj.bM; simp only [List.mem_cons, forall_eq_or_imp] at h9 ⊢; exact h9⟩
  case hdone =>
   rintro V o ho ⟨o2, F12⟩
   have FY := Lib.hid ((F12.out.putM 0 rfl o ho).less (.refl _) (.refl _) (.refl _) (List.sublist_cons_self _ _))
   try simp only [List.set_cons_zero, List.set_cons_succ] at FY
   generalize V.putObj (D + 1) o = V3 at *
   clear F12 F10 hD
   have hpb := (HPB.out n hlt).2
   obtain ⟨pq, hpq⟩ : ∃ z : Nat, PF n = (z : Int) := ⟨(PF n).toNat, by omega⟩
   have hpn := HPN.out
   rw [← hpn, hpq] at FY
   have hvn := HVD.out n
   rw [hpq] at hvn hpb
   have hpl : pq < ys.length := by omega
   have hvy : VF n = ys[pq]?.getD 0 := hvn
   obtain ⟨vy, hvy2⟩ : ∃ z, ys[pq]?.getD 0 = z := ⟨_, rfl⟩
   rw [hvy2] at hvy
   obtain ⟨gy, oy, rfl, _, _⟩ := HI1.out.cell pq hpl
   have HYQ := Lib.hid hvy2
   have hsD := upto_set VF hlt
   have hsP := upto_set PF hlt
   rw [HLD.out, hvy] at hsD
   rw [HLP.out, hpq] at hsP
   have hgD := upto_get VF (n := n) hlt
   have hgP := upto_get PF (n := n) hlt
   rw [HLD.out] at hgD
   rw [HLP.out] at hgP
   have HSD := Lib.hid hsD
   have HSP := Lib.hid hsP
   have HGD := Lib.hid hgD
   have HGP := Lib.hid hgP
   have hpli : (pq : Int) < (ys.length : Int) := by omega
   clear hpb hpq hpn hvn hvy hvy2 hsD hsP hgD hgP
   go_upto_region 14 with fail
   refine wp_region_inv (w := V3) 15 (fun _ _ => True) (fun k9 W => (k9 = 0 → Fr w.heap.size w W [(w.heap.size, [.slice (some ⟨b0, o0, none⟩) xs.length c, .slice (some ⟨gy, oy, none⟩) ys.length d]), (w.heap.size + 1, [.slice aK wv.K.length cK, .slice aS wv.S.length cS, .slice aP wv.P.length cP, .slice aD wv.D.length cD]), (w.heap.size + 1 + 1, [.slice as_ S.length cs_, .slice (some ⟨gd, 0, none⟩) NN dd]), (Y7, [.slice (some ⟨b0, o0 + 2, none⟩) wv.L.length cL, .slice aK wv.K.length cK, .slice aO wv.O.length cO, .slice aK wv.K.length cK, .slice aS wv.S.length cS, .slice aP wv.P.length cP, .slice aD wv.D.length cD]), (Yb, [.int .i64 (pq : Int)]), (X1, [.slice (some ⟨b0, o0 + 2, none⟩) wv.L.length cL, .slice aK wv.K.length cK, .slice aO wv.O.length cO, .slice aK wv.K.length cK, .slice aS wv.S.length cS, .slice aP wv.P.length cP, .slice aD wv.D.length cD]), (X1 + 1, [.int .i64 (n : Int)]), (X1 + 1 + 1, [.int .i64 (M : Int)])] [(.i64, (some ⟨b0, o0, none⟩), xs), (.i64, (some ⟨gy, oy, none⟩), ys), (.i64, aK, wv.K), (.i64, aS, wv.S), (.i64, aP, wv.P), (.i64, aD, wv.D), (.i64, (some ⟨b0, o0 + 2, none⟩), wv.L)] [⟨3, .slice aO wv.O.length cO, wv.O.length, wv.O.map (Value.int .i64)⟩, ⟨3, .slice as1 S.length cs1, S.length, S.map (Value.int .i64)⟩, ⟨3, .slice as_ S.length cs_, S.length, S.map (Value.int .i64)⟩, ⟨2, .slice (some ⟨gd, 0, none⟩) NN dd, NN, LD⟩, ⟨3, .slice (some ⟨gp, 0, none⟩) NN NN, NN, LP⟩] (mkM (D :: Ds))) ∧ (k9 = 1 → Fr w.heap.size w W [(w.heap.size, [.slice (some ⟨b0, o0, none⟩) xs.length c, .slice (some ⟨gy, oy, none⟩) ys.length d]), (w.heap.size + 1, [.slice aK wv.K.length cK, .slice aS wv.S.length cS, .slice aP wv.P.length cP, .slice aD wv.D.length cD]), (w.heap.size + 1 + 1, [.slice as_ S.length cs_, .slice (some ⟨gd, 0, none⟩) NN dd]), (Y7, [.slice (some ⟨b0, o0 + 2, none⟩) wv.L.length cL, .slice aK wv.K.length cK, .slice aO wv.O.length cO, .slice aK wv.K.length cK, .slice aS wv.S.length cS, .slice aP wv.P.length cP, .slice aD wv.D.length cD]), (Yb, [.int .i64 (pq : Int)]), (X1, [.slice (some ⟨b0, o0 + 2, none⟩) wv.L.length cL, .slice aK wv.K.length cK, .slice aO wv.O.length cO, .slice aK wv.K.length cK, .slice aS wv.S.length cS, .slice aP wv.P.length cP, .slice aD wv.D.length cD]), (X1 + 1, [.int .i64 (n : Int)]), (X1 + 1 + 1, [.int .i64 (M : Int)])] [(.i64, (some ⟨b0, o0, none⟩), xs), (.i64, (some ⟨gy, oy, none⟩), ys), (.i64, aK, wv.K), (.i64, aS, wv.S), (.i64, aP, wv.P), (.i64, aD, wv.D), (.i64, (some ⟨b0, o0 + 2, none⟩), wv.L)] [⟨3, .slice aO wv.O.length cO, wv.O.length, wv.O.map (Value.int .i64)⟩, ⟨3, .slice as1 S.length cs1, S.length, S.map (Value.int .i64)⟩, ⟨3, .slice as_ S.length cs_, S.length, S.map (Value.int .i64)⟩, ⟨2, .slice (some ⟨gd, 0, none⟩) NN dd, NN, LD.set n (.int .i64 vy)⟩, ⟨3, .slice (some ⟨gp, 0, none⟩) NN NN, NN, LP⟩] (mkM (D :: Ds))) ∧ (k9 = 2 → Fr w.heap.size w W [(w.heap.size, [.slice (some ⟨b0, o0, none⟩) xs.length c, .slice (some ⟨gy, oy, none⟩) ys.length d]), (w.heap.size + 1, [.slice aK wv.K.length cK, .slice aS wv.S.length cS, .slice aP wv.P.length cP, .slice aD wv.D.length cD]), (w.heap.size + 1 + 1, [.slice as_ S.length cs_, .slice (some ⟨gd, 0, none⟩) NN dd]), (Y7, [.slice (some ⟨b0, o0 + 2, none⟩) wv.L.length cL, .slice aK wv.K.length cK, .slice aO wv.O.length cO, .slice aK wv.K.length cK, .slice aS wv.S.length cS, .slice aP wv.P.length cP, .slice aD wv.D.length cD]), (Yb, [.int .i64 (pq : Int)]), (X1, [.slice (some ⟨b0, o0 + 2, none⟩) wv.L.length cL, .slice aK wv.K.length cK, .slice aO wv.O.length cO, .slice aK wv.K.length cK, .slice aS wv.S.length cS, .slice aP wv.P.length cP, .slice aD wv.D.length cD]), (X1 + 1, [.int .i64 (n : Int)]), (X1 + 1 + 1, [.int .i64 (M : Int)])] [(.i64, (some ⟨b0, o0, none⟩), xs), (.i64, (some ⟨gy, oy, none⟩), ys), (.i64, aK, wv.K), (.i64, aS, wv.S), (.i64, aP, wv.P), (.i64, aD, wv.D), (.i64, (some ⟨b0, o0 + 2, none⟩), wv.L)] [⟨3, .slice aO wv.O.length cO, wv.O.length, wv.O.map (Value.int .i64)⟩, ⟨3, .slice as1 S.length cs1, S.length, S.map (Value.int .i64)⟩, ⟨3, .slice as_ S.length cs_, S.length, S.map (Value.int .i64)⟩, ⟨2, .slice (some ⟨gd, 0, none⟩) NN dd, NN, LD.set n (.int .i64 vy)⟩, ⟨3, .slice (some ⟨gp, 0, none⟩) NN NN, NN, LP.set n (.int .i64 (pq : Int))⟩] (mkM (D :: Ds)))) [12, 14] [(fun u _ => u = .pointer (some ⟨w.heap.size + 1 + 1, 1, none⟩)), (fun u _ => u = .slice (some ⟨gd, 0, none⟩) NN dd), (fun u _ => u = .int .i64 (n : Int)), (fun u _ => u = .slice (some ⟨gp, 0, none⟩) NN NN), (fun u _ => u = .int .i64 (n : Int)), (fun u _ => u = .pointer (some ⟨w.heap.size, 1, none⟩)), (fun u _ => u = .slice (some ⟨gy, oy, none⟩) ys.length d), (fun u _ => u = .int .i64 (pq : Int)), (fun u _ => u = .pointer (some ⟨gy, oy + pq, none⟩)), (fun u _ => u = .int .i64 vy), (fun u _ => u = .int .i64 (pq : Int)), (fun u _ => u = .pointer (some ⟨gd, n, none⟩)), (fun _ _ => True), (fun u _ => u = .pointer (some ⟨gp, n, none⟩)), (fun _ _ => True)] [some 73, some 74, some 75, some 76, some 77, some 78, some 79, some 80, some 81, some 82, some 83, some 84, none, some 85, none] (by kernel_rfl) (by kernel_rfl) rfl (by kernel_rfl) (by kernel_rfl) (by decide) (by decide) (fun _ _ => trivial) trivial ⟨fun _ => FY.out.drew, fun h => absurd h (by decide), fun h => absurd h (by decide)⟩ (BorneAll.at (.cons (borne_eq _) (.cons (borne_eq _) (.cons (borne_eq _) (.cons (borne_eq _) (.cons (borne_eq _) (.cons (borne_eq _) (.cons (borne_eq _) (.cons (borne_eq _) (.cons (borne_eq _) (.cons (borne_eq _) (.cons (borne_eq _) (.cons (borne_eq _) (.cons (fun _ _ _ _ _ => trivial) (.cons (borne_eq _) (.cons (fun _ _ _ _ _ => trivial) .nil)))))))))))))))) (fun vs b hvl hvb => ?_)
   obtain ⟨x0, x1, x2, x3, x4, x5, x6, x7, x8, x9, x10, x11, x12, x13, x14, rfl⟩ : ∃ x0 x1 x2 x3 x4 x5 x6 x7 x8 x9 x10 x11 x12 x13 x14, vs = [x0, x1, x2, x3, x4, x5, x6, x7, x8, x9, x10, x11, x12, x13, x14] := lw15 hvl
   clear hvl
   simp only [putAll, Act.put, List.setIfInBounds_toArray, List.set_cons_zero, List.set_cons_succ] at hvb
   subst hvb
   refine ⟨(.snoc (.snoc (.snoc (.snoc (.snoc (.snoc (.snoc (.snoc (.snoc (.snoc (.snoc (.snoc (.snoc (.snoc (.snoc .zero (InvOb.intro (d := (some 73)) (r := fun u _ => u = .pointer (some ⟨w.heap.size + 1 + 1, 1, none⟩)) 0 0 rfl rfl rfl (by kernel_rfl) (by kernel_rfl) rfl ?io14x0)) (InvOb.intro (d := (some 74)) (r := fun u _ => u = .slice (some ⟨gd, 0, none⟩) NN dd) 0 0 rfl rfl rfl (by kernel_rfl) (by kernel_rfl) rfl ?io14x1)) (InvOb.intro (d := (some 75)) (r := fun u _ => u = .int .i64 (n : Int)) 0 0 rfl rfl rfl (by kernel_rfl) (by kernel_rfl) rfl ?io14x2)) (InvOb.intro (d := (some 76)) (r := fun u _ => u = .slice (some ⟨gp, 0, none⟩) NN NN) 0 1 rfl rfl rfl (by kernel_rfl) (by kernel_rfl) rfl ?io14x3)) (InvOb.intro (d := (some 77)) (r := fun u _ => u = .int .i64 (n : Int)) 0 1 rfl rfl rfl (by kernel_rfl) (by kernel_rfl) rfl ?io14x4)) (InvOb.intro (d := (some 78)) (r := fun u _ => u = .pointer (some ⟨w.heap.size, 1, none⟩)) 0 0 rfl rfl rfl (by kernel_rfl) (by kernel_rfl) rfl ?io14x5)) (InvOb.intro (d := (some 79)) (r := fun u _ => u = .slice (some ⟨gy, oy, none⟩) ys.length d) 0 0 rfl rfl rfl (by kernel_rfl) (by kernel_rfl) rfl ?io14x6)) (InvOb.intro (d := (some 80)) (r := fun u _ => u = .int .i64 (pq : Int)) 0 0 rfl rfl rfl (by kernel_rfl) (by kernel_rfl) rfl ?io14x7)) (InvOb.intro (d := (some 81)) (r := fun u _ => u = .pointer (some ⟨gy, oy + pq, none⟩)) 0 0 rfl rfl rfl (by kernel_rfl) (by kernel_rfl) rfl ?io14x8)) (InvOb.intro (d := (some 82)) (r := fun u _ => u = .int .i64 vy) 0 0 rfl rfl rfl (by kernel_rfl) (by kernel_rfl) rfl ?io14x9)) (InvOb.intro (d := (some 83)) (r := fun u _ => u = .int .i64 (pq : Int)) 0 1 rfl rfl rfl (by kernel_rfl) (by kernel_rfl) rfl ?io14x10)) (InvOb.intro (d := (some 84)) (r := fun u _ => u = .pointer (some ⟨gd, n, none⟩)) 0 0 rfl rfl rfl (by kernel_rfl) (by kernel_rfl) rfl ?io14x11)) (InvOb.put (d := none) (r := fun _ _ => True) 0 rfl rfl rfl (by kernel_rfl) (by kernel_rfl) rfl ?io14x12)) (InvOb.intro (d := (some 85)) (r := fun u _ => u = .pointer (some ⟨gp, n, none⟩)) 1 1 rfl rfl rfl (by kernel_rfl) (by kernel_rfl) rfl ?io14x13)) (InvOb.put (d := none) (r := fun _ _ => True) 1 rfl rfl rfl (by kernel_rfl) (by kernel_rfl) rfl ?io14x14)), ?iend14⟩
   case io14x0 =>
    intro k1 w1 hk0 hk1 hb1 hS hd KK hK
    clear hd
    simp only [Act.put, List.setIfInBounds_toArray, List.set_cons_zero, List.set_cons_succ] at hK
    go_simp
    first | exact hK.out _ _ trivial hS rfl | (have hk := hK.out _ _ trivial hS rfl; revert hk; go_simp)
   case io14x1 =>
    intro k1 w1 hk0 hk1 hb1 hS hd KK hK
    have d0 : x0 = .pointer (some ⟨w.heap.size + 1 + 1, 1, none⟩) := hd 0 (by kernel_rfl)
    clear hd
    subst d0
    have hF := hS.1 (by omega)
    have k0 := hF.c 2 0 rfl rfl
    have k1 := hF.c 2 1 rfl rfl
    simp only [Act.put, List.setIfInBounds_toArray, List.set_cons_zero, List.set_cons_succ] at hK
    go_simp
    first | exact hK.out _ _ trivial hS rfl | (have hk := hK.out _ _ trivial hS rfl; revert hk; go_simp)
   case io14x2 =>
    intro k1 w1 hk0 hk1 hb1 hS hd KK hK
    clear hd
    simp only [Act.put, List.setIfInBounds_toArray, List.set_cons_zero, List.set_cons_succ] at hK
    go_simp
    first | exact hK.out _ _ trivial hS rfl | (have hk := hK.out _ _ trivial hS rfl; revert hk; go_simp)
   case io14x3 =>
    intro k1 w1 hk0 hk1 hb1 hS hd KK hK
    clear hd
    simp only [Act.put, List.setIfInBounds_toArray, List.set_cons_zero, List.set_cons_succ] at hK
    go_simp
    first | exact hK.out _ _ trivial hS rfl | (have hk := hK.out _ _ trivial hS rfl; revert hk; go_simp)
   case io14x4 =>
    intro k1 w1 hk0 hk1 hb1 hS hd KK hK
    clear hd
    simp only [Act.put, List.setIfInBounds_toArray, List.set_cons_zero, List.set_cons_succ] at hK
    go_simp
    first | exact hK.out _ _ trivial hS rfl | (have hk := hK.out _ _ trivial hS rfl; revert hk; go_simp)
   case io14x5 =>
    intro k1 w1 hk0 hk1 hb1 hS hd KK hK
    clear hd
    simp only [Act.put, List.setIfInBounds_toArray, List.set_cons_zero, List.set_cons_succ] at hK
    go_simp
    first | exact hK.out _ _ trivial hS rfl | (have hk := hK.out _ _ trivial hS rfl; revert hk; go_simp)
   case io14x6 =>
    intro k1 w1 hk0 hk1 hb1 hS hd KK hK
    have d5 : x5 = .pointer (some ⟨w.heap.size, 1, none⟩) := hd 5 (by kernel_rfl)
    clear hd
    subst d5
    have hF := hS.1 (by omega)
    have k0 := hF.c 0 0 rfl rfl
    have k1 := hF.c 0 1 rfl rfl
    simp only [Act.put, List.setIfInBounds_toArray, List.set_cons_zero, List.set_cons_succ] at hK
    go_simp
    first | exact hK.out _ _ trivial hS rfl | (have hk := hK.out _ _ trivial hS rfl; revert hk; go_simp)
   case io14x7 =>
    intro k1 w1 hk0 hk1 hb1 hS hd KK hK
    clear hd
    have hF := hS.1 (by omega)
    have k0 := hF.c 4 0 rfl rfl
    simp only [Act.put, List.setIfInBounds_toArray, List.set_cons_zero, List.set_cons_succ] at hK
    go_simp
    first | exact hK.out _ _ trivial hS rfl | (have hk := hK.out _ _ trivial hS rfl; revert hk; go_simp)
   case io14x8 =>
    intro k1 w1 hk0 hk1 hb1 hS hd KK hK
    have d6 : x6 = .slice (some ⟨gy, oy, none⟩) ys.length d := hd 6 (by kernel_rfl)
    have d7 : x7 = .int .i64 (pq : Int) := hd 7 (by kernel_rfl)
    clear hd
    subst d6
    subst d7
    simp only [Act.put, List.setIfInBounds_toArray, List.set_cons_zero, List.set_cons_succ] at hK
    go_simp
    first | exact hK.out _ _ trivial hS rfl | (have hk := hK.out _ _ trivial hS rfl; revert hk; go_simp)
   case io14x9 =>
    intro k1 w1 hk0 hk1 hb1 hS hd KK hK
    have d8 : x8 = .pointer (some ⟨gy, oy + pq, none⟩) := hd 8 (by kernel_rfl)
    clear hd
    subst d8
    have hF := hS.1 (by omega)
    obtain ⟨b9, o9, he, _, hcx⟩ := (hF.l 1 rfl).cell pq hpl
    cases he
    rw [HYQ.out] at hcx
    simp only [Act.put, List.setIfInBounds_toArray, List.set_cons_zero, List.set_cons_succ] at hK
    go_simp
    first | exact hK.out _ _ trivial hS rfl | (have hk := hK.out _ _ trivial hS rfl; revert hk; go_simp)
   case io14x10 =>
    intro k1 w1 hk0 hk1 hb1 hS hd KK hK
    clear hd
    have k0 := (show k1 = 0 ∨ k1 = 1 by omega).elim (fun h => (hS.1 h).c 4 0 rfl rfl) (fun h => (hS.2.1 h).c 4 0 rfl rfl)
    simp only [Act.put, List.setIfInBounds_toArray, List.set_cons_zero, List.set_cons_succ] at hK
    go_simp
    first | exact hK.out _ _ trivial hS rfl | (have hk := hK.out _ _ trivial hS rfl; revert hk; go_simp)
   case io14x11 =>
    intro k1 w1 hk0 hk1 hb1 hS hd KK hK
    have d0 : x0 = .pointer (some ⟨w.heap.size + 1 + 1, 1, none⟩) := hd 0 (by kernel_rfl)
    have d1 : x1 = .slice (some ⟨gd, 0, none⟩) NN dd := hd 1 (by kernel_rfl)
    have d2 : x2 = .int .i64 (n : Int) := hd 2 (by kernel_rfl)
    have d5 : x5 = .pointer (some ⟨w.heap.size, 1, none⟩) := hd 5 (by kernel_rfl)
    have d6 : x6 = .slice (some ⟨gy, oy, none⟩) ys.length d := hd 6 (by kernel_rfl)
    have d7 : x7 = .int .i64 (pq : Int) := hd 7 (by kernel_rfl)
    have d8 : x8 = .pointer (some ⟨gy, oy + pq, none⟩) := hd 8 (by kernel_rfl)
    have d9 : x9 = .int .i64 vy := hd 9 (by kernel_rfl)
    clear hd
    subst d0
    subst d1
    subst d2
    subst d5
    subst d6
    subst d7
    subst d8
    subst d9
    simp only [Act.put, List.setIfInBounds_toArray, List.set_cons_zero, List.set_cons_succ] at hK
    go_simp
    first | exact hK.out _ _ trivial hS rfl | (have hk := hK.out _ _ trivial hS rfl; revert hk; go_simp)
   case io14x12 =>
    intro w1 hb1 hS hd KK hK
    have d0 : x0 = .pointer (some ⟨w.heap.size + 1 + 1, 1, none⟩) := hd 0 (by kernel_rfl)
    have d1 : x1 = .slice (some ⟨gd, 0, none⟩) NN dd := hd 1 (by kernel_rfl)
    have d2 : x2 = .int .i64 (n : Int) := hd 2 (by kernel_rfl)
    have d5 : x5 = .pointer (some ⟨w.heap.size, 1, none⟩) := hd 5 (by kernel_rfl)
    have d6 : x6 = .slice (some ⟨gy, oy, none⟩) ys.length d := hd 6 (by kernel_rfl)
    have d7 : x7 = .int .i64 (pq : Int) := hd 7 (by kernel_rfl)
    have d8 : x8 = .pointer (some ⟨gy, oy + pq, none⟩) := hd 8 (by kernel_rfl)
    have d9 : x9 = .int .i64 vy := hd 9 (by kernel_rfl)
    have d11 : x11 = .pointer (some ⟨gd, n, none⟩) := hd 11 (by kernel_rfl)
    clear hd
    subst d0
    subst d1
    subst d2
    subst d5
    subst d6
    subst d7
    subst d8
    subst d9
    subst d11
    have hF := hS.1 rfl
    obtain ⟨kc, kf⟩ := hF.rc 3 n rfl HGD.out
    simp only [Act.put, List.setIfInBounds_toArray, List.set_cons_zero, List.set_cons_succ] at hK
    go_simp
    first | exact hK.out undef _ trivial ⟨fun h => absurd h (by decide), fun _ => by have hp := hF.put 3 n rfl (.int .i64 vy); simp only [List.set_cons_zero, List.set_cons_succ] at hp; exact hp, fun h => absurd h (by decide)⟩ trivial | (have hk := hK.out undef _ trivial ⟨fun h => absurd h (by decide), fun _ => by have hp := hF.put 3 n rfl (.int .i64 vy); simp only [List.set_cons_zero, List.set_cons_succ] at hp; exact hp, fun h => absurd h (by decide)⟩ trivial; revert hk; go_simp)
   case io14x13 =>
    intro k1 w1 hk0 hk1 hb1 hS hd KK hK
    have d0 : x0 = .pointer (some ⟨w.heap.size + 1 + 1, 1, none⟩) := hd 0 (by kernel_rfl)
    have d1 : x1 = .slice (some ⟨gd, 0, none⟩) NN dd := hd 1 (by kernel_rfl)
    have d2 : x2 = .int .i64 (n : Int) := hd 2 (by kernel_rfl)
    have d3 : x3 = .slice (some ⟨gp, 0, none⟩) NN NN := hd 3 (by kernel_rfl)
    have d4 : x4 = .int .i64 (n : Int) := hd 4 (by kernel_rfl)
    have d5 : x5 = .pointer (some ⟨w.heap.size, 1, none⟩) := hd 5 (by kernel_rfl)
    have d6 : x6 = .slice (some ⟨gy, oy, none⟩) ys.length d := hd 6 (by kernel_rfl)
    have d7 : x7 = .int .i64 (pq : Int) := hd 7 (by kernel_rfl)
    have d8 : x8 = .pointer (some ⟨gy, oy + pq, none⟩) := hd 8 (by kernel_rfl)
    have d9 : x9 = .int .i64 vy := hd 9 (by kernel_rfl)
    have d10 : x10 = .int .i64 (pq : Int) := hd 10 (by kernel_rfl)
    have d11 : x11 = .pointer (some ⟨gd, n, none⟩) := hd 11 (by kernel_rfl)
    clear hd
    subst d0
    subst d1
    subst d2
    subst d3
    subst d4
    subst d5
    subst d6
    subst d7
    subst d8
    subst d9
    subst d10
    subst d11
    simp only [Act.put, List.setIfInBounds_toArray, List.set_cons_zero, List.set_cons_succ] at hK
    go_simp
    first | exact hK.out _ _ trivial hS rfl | (have hk := hK.out _ _ trivial hS rfl; revert hk; go_simp)
   case io14x14 =>
    intro w1 hb1 hS hd KK hK
    have d0 : x0 = .pointer (some ⟨w.heap.size + 1 + 1, 1, none⟩) := hd 0 (by kernel_rfl)
    have d1 : x1 = .slice (some ⟨gd, 0, none⟩) NN dd := hd 1 (by kernel_rfl)
    have d2 : x2 = .int .i64 (n : Int) := hd 2 (by kernel_rfl)
    have d3 : x3 = .slice (some ⟨gp, 0, none⟩) NN NN := hd 3 (by kernel_rfl)
    have d4 : x4 = .int .i64 (n : Int) := hd 4 (by kernel_rfl)
    have d5 : x5 = .pointer (some ⟨w.heap.size, 1, none⟩) := hd 5 (by kernel_rfl)
    have d6 : x6 = .slice (some ⟨gy, oy, none⟩) ys.length d := hd 6 (by kernel_rfl)
    have d7 : x7 = .int .i64 (pq : Int) := hd 7 (by kernel_rfl)
    have d8 : x8 = .pointer (some ⟨gy, oy + pq, none⟩) := hd 8 (by kernel_rfl)
    have d9 : x9 = .int .i64 vy := hd 9 (by kernel_rfl)
    have d10 : x10 = .int .i64 (pq : Int) := hd 10 (by kernel_rfl)
    have d11 : x11 = .pointer (some ⟨gd, n, none⟩) := hd 11 (by kernel_rfl)
    have d13 : x13 = .pointer (some ⟨gp, n, none⟩) := hd 13 (by kernel_rfl)
    clear hd
    subst d0
    subst d1
    subst d2
    subst d3
    subst d4
    subst d5
    subst d6
    subst d7
    subst d8
    subst d9
    subst d10
    subst d11
    subst d13
    have hF := hS.2.1 rfl
    obtain ⟨kc, kf⟩ := hF.rc 4 n rfl HGP.out
    simp only [Act.put, List.setIfInBounds_toArray, List.set_cons_zero, List.set_cons_succ] at hK
    go_simp
    first | exact hK.out undef _ trivial ⟨fun h => absurd h (by decide), fun h => absurd h (by decide), fun _ => by have hp := hF.put 4 n rfl (.int .i64 (pq : Int)); simp only [List.set_cons_zero, List.set_cons_succ] at hp; exact hp⟩ trivial | (have hk := hK.out undef _ trivial ⟨fun h => absurd h (by decide), fun h => absurd h (by decide), fun _ => by have hp := hF.put 4 n rfl (.int .i64 (pq : Int)); simp only [List.set_cons_zero, List.set_cons_succ] at hp; exact hp⟩ trivial; revert hk; go_simp)
   case iend14 =>
    intro w1 hb1 hS hR
    have d0 : x0 = .pointer (some ⟨w.heap.size + 1 + 1, 1, none⟩) := hR 0 (by decide)
    have d1 : x1 = .slice (some ⟨gd, 0, none⟩) NN dd := hR 1 (by decide)
    have d2 : x2 = .int .i64 (n : Int) := hR 2 (by decide)
    have d3 : x3 = .slice (some ⟨gp, 0, none⟩) NN NN := hR 3 (by decide)
    have d4 : x4 = .int .i64 (n : Int) := hR 4 (by decide)
    have d5 : x5 = .pointer (some ⟨w.heap.size, 1, none⟩) := hR 5 (by decide)
    have d6 : x6 = .slice (some ⟨gy, oy, none⟩) ys.length d := hR 6 (by decide)
    have d7 : x7 = .int .i64 (pq : Int) := hR 7 (by decide)
    have d8 : x8 = .pointer (some ⟨gy, oy + pq, none⟩) := hR 8 (by decide)
    have d9 : x9 = .int .i64 vy := hR 9 (by decide)
    have d10 : x10 = .int .i64 (pq : Int) := hR 10 (by decide)
    have d11 : x11 = .pointer (some ⟨gd, n, none⟩) := hR 11 (by decide)
    have d13 : x13 = .pointer (some ⟨gp, n, none⟩) := hR 13 (by decide)
    clear hR
    subst d0
    subst d1
    subst d2
    subst d3
    subst d4
    subst d5
    subst d6
    subst d7
    subst d8
    subst d9
    subst d10
    subst d11
    subst d13
    try simp only [putAll, Act.put, List.setIfInBounds_toArray, List.set_cons_zero, List.set_cons_succ]
    have G4 := Lib.hid (hS.2.2 rfl)
    clear hS hb1 FY
    obtain ⟨V4, rfl⟩ : ∃ x : World, x = w1 := ⟨_, rfl⟩
    (try simp only [Exit.noGoto_normal, Exit.inBlock, Exit.then])
    (first | refine ‹∀ (a : Act) (w : World), Code.wp _ _ _ a w → _ a w› _ _ ?_ | skip)
    go_wp2
    have G5 := G4.out.less (B' := [(w.heap.size, [.slice (some ⟨b0, o0, none⟩) xs.length c, .slice (some ⟨gy, oy, none⟩) ys.length d]), (w.heap.size + 1, [.slice aK wv.K.length cK, .slice aS wv.S.length cS, .slice aP wv.P.length cP, .slice aD wv.D.length cD]), (w.heap.size + 1 + 1, [.slice as_ S.length cs_, .slice (some ⟨gd, 0, none⟩) NN dd]), (Y7, [.slice (some ⟨b0, o0 + 2, none⟩) wv.L.length cL, .slice aK wv.K.length cK, .slice aO wv.O.length cO, .slice aK wv.K.length cK, .slice aS wv.S.length cS, .slice aP wv.P.length cP, .slice aD wv.D.length cD])]) (.cons_cons _ (.cons_cons _ (.cons_cons _ (.cons_cons _ (List.nil_sublist _))))) (.refl _) (.refl _) (.refl _)
    rw [HSD.out, HSP.out] at G5
    refine ⟨⟨⟨n + 1, D :: Ds, by omega, by first | rfl | (show Value.int .i64 _ = _; go_num), rfl, Lib.hid G5⟩, rfl⟩, ?_⟩
    show NN - _ < NN - _
    simp [slotsOf, intOf]
    omega
 ·skip
  obtain rfl : n = NN := by omega
  have c2_0 := F8.out.c 2 0 rfl rfl
  have c2_1 := F8.out.c 2 1 rfl rfl
  have ef2_0 := F8.out.f 2 0 rfl rfl
  have ef2_1 := F8.out.f 2 1 rfl rfl
  go_wp2
  have F9 := F8.out
  rw [upto_all, upto_all] at F9
  have FZ := F9.set 2 rfl (by simp) [.slice as_ S.length cs_, .slice (some ⟨gd, 0, none⟩) n dd] rfl
  simp only [setL, Nat.reduceAdd, List.set_cons_zero, List.set_cons_succ] at FZ
  show LeavesInM Fence.wide 20 Try.prog Try.f10 _ (RetPX _ _ _ _ _) (mkD Ds) .returning _
  refine leaves_marks (by simp) _ _ FZ (fun w9 F10 => ?_)
  have y0 := F10.c 2 0 rfl rfl
  have y1 := F10.c 2 1 rfl rfl
  refine ⟨.tuple #[.agg #[.slice as_ S.length cs_, .slice (some ⟨gd, 0, none⟩) n dd], .slice (some ⟨gp, 0, none⟩) n n, .int .i64 0], ?_, ?_⟩
  ·rw [results_ctt rfl]
   go_simp
  ·skip
   have hS9 : S.length = S.length := rfl
   refine ⟨as_, cs_, some ⟨gd, 0, none⟩, dd, some ⟨gp, 0, none⟩, n, by simp, ?_⟩
   have h9 := (F10.rows).less (.refl _) (.refl _) (.cons _ (.cons _ (.refl _))) (.refl _)
   simp only [List.length_map, List.length_range] at h9 ⊢
   exact h9
end Go.Proofs.Ytmjcpgfekpedkaa
