/- Walks: the reference's Mul. -/
import Derived.Test.YtddhhfhammmaaaaGreatMXPair
import Derived.Test.YtddhhfhammmaaaaGreatMBShape
set_option linter.unusedVariables false
set_option linter.unusedSimpArgs false
namespace Go.Proofs.YtddhhfhammmaaaaGreat
open Go.RowKit Go.Rt
def IsNat (m : Nat) (u : Value) (W : World) : Prop := ∃ a c, u = .slice a (dig 18446744073709551616 m).length c ∧ NAt W W.heap.size a c m
theorem isNat_carries (m : Nat) : Carries (IsNat m) := fun _ _ _ ⟨a, c, h, hN⟩ hb => ⟨a, c, h, hN.next hb⟩
def IsRat (x : Int) (m : Nat) (u : Value) (W : World) : Prop := ∃ a c b d, u = .agg #[.bool (decide (x < 0)), .slice a (dig 18446744073709551616 x.natAbs).length c, .slice b (dig 18446744073709551616 m).length d] ∧ NAt W W.heap.size a c x.natAbs ∧ NAt W W.heap.size b d m
theorem isRat_carries (x : Int) (m : Nat) : Carries (IsRat x m) := fun _ _ _ ⟨a, c, b, d, h, hN, hM⟩ hb => ⟨a, c, b, d, h, hN.next hb, hM.next hb⟩
/-- The sum made a word: what Near is told. -/
theorem sum_near {x : Int} {f : Nat} (hf : f ≤ 62) (hx : x.natAbs ≤ 4096 * (140737488355328 * 140737488355328)) (w : World) :
    (∀ p q c d W, NAt W W.heap.size p c x.natAbs → NAt W W.heap.size q d (2 ^ f) → Calls Tryz.prog 26 #[.agg #[.bool (decide (x < 0)), .slice p (dig 18446744073709551616 x.natAbs).length c], .slice q (dig 18446744073709551616 (2 ^ f)).length d] W (RetR W (ratQ x (2 ^ f)) (ratK x (2 ^ f)))) ∧
    (∀ p q c d W, NAt W W.heap.size p c (ratQ x (2 ^ f)).natAbs → NAt W W.heap.size q d (ratK x (2 ^ f)) → Calls Tryz.prog 25 #[.agg #[.bool (decide (ratQ x (2 ^ f) < 0)), .slice p (dig 18446744073709551616 (ratQ x (2 ^ f)).natAbs).length c, .slice q (dig 18446744073709551616 (ratK x (2 ^ f))).length d]] W fun e w' => RetV (wordV (shI x f)) (wordE (shI x f)) e ∧ Below W.heap.size W w') := by
  have hpf : (2 : Nat) ^ f ≤ 2 ^ 62 := Nat.pow_le_pow_right (by decide) hf
  have h62 : (2 : Nat) ^ 62 = 4611686018427387904 := by decide
  have h130 : (2 : Nat) ^ 130 = 1361129467683753853853498429727072845824 := by decide
  have hp0 : 0 < (2 : Nat) ^ f := Nat.pow_pos (by decide)
  obtain ⟨e1, e2⟩ := rat_pow x f
  have hg : 0 < Nat.gcd x.natAbs (2 ^ f) := Nat.gcd_pos_of_pos_right _ hp0
  have hq0 : (ratQ x (2 ^ f)).natAbs ≤ x.natAbs := by rw [← e1, sgnZ_abs]; exact Nat.div_le_self _ _
  have hk0 : ratK x (2 ^ f) ≤ 2 ^ f := by rw [← e2]; exact Nat.div_le_self _ _
  have hk1 : 0 < ratK x (2 ^ f) := by rw [← e2]; exact Nat.div_pos (Nat.le_of_dvd hp0 (Nat.gcd_dvd_right _ _)) hg
  exact ⟨fun p q c d W h h' => rmake_any p q c d (2 ^ f) 130 x (ratQ x (2 ^ f)) (ratK x (2 ^ f)) W h h' (by decide) (by rw [h130]; omega) (by rw [h130]; omega) hp0 e1 e2,
    fun p q c d W h h' => ref2Near_any p q c d (ratK x (2 ^ f)) 130 (ratQ x (2 ^ f)) (shI x f) W h h' (by decide) (by rw [h130]; omega) (by rw [h130]; omega) hk1 (near_shI x f)⟩

set_option maxRecDepth 100000 in
set_option maxHeartbeats 4000000 in
theorem rmul_any (a b a' b' : Option Addr) (c d c' d' f : Nat) (xsA ysA xsB ysB : List Int) (w : World) (hA : Ten w w.heap.size a c b d xsA ysA) (hB : Ten w w.heap.size a' c' b' d' xsB ysB) (tA : tenB xsA ysA = true) (tB : tenB xsB ysB = true) (f1 : f ≤ 32) :
    Calls Tryz.prog 7 #[.agg #[.slice a xsA.length c, .slice b ysA.length d], .agg #[.slice a' xsB.length c', .slice b' ysB.length d'], .int .i64 f] w (RetTF w (mulX xsA ysA xsB ysB f) (mulY xsA ysA xsB ysB f) (mulE xsA ysA xsB ysB f)) := by
  have H0 := Lib.hid hA.sh
  have H1 := Lib.hid hA.da
  have H2 := Lib.hid hB.sh
  have H3 := Lib.hid hB.da
  have lA := (goodB_iff.1 (tenB_iff.1 tA).1).1
  have lB := (goodB_iff.1 (tenB_iff.1 tB).1).1
  have hms := fun W (h : Ints .i64 W W.heap.size a xsA) (h2 : Ints .i64 W W.heap.size a' xsB) => mulShape_any a a' c c' xsA xsB W h h2 lA lB hA.c1 hB.c1 hA.c2 hB.c2
  by_cases hz : outE xsA xsB = 0
  · skip
    obtain ⟨I, N, oX, oY, RM⟩ := rmul_of f tA tB hz
    have hro : outR xsA xsB = outL xsA xsB := by unfold outR; rw [if_pos hz]
    rw [hro, hz] at hms
    obtain ⟨Z, hZ⟩ : ∃ x9, mulE xsA ysA xsB ysB f = x9 := ⟨_, rfl⟩
    have hX : mulX xsA ysA xsB ysB f = zL Z (outL xsA xsB) := by unfold mulX zL; rw [hZ]
    have hY : mulY xsA ysA xsB ysB f = zL Z ((List.range N).map (mulW xsA ysA xsB ysB f)) := by unfold mulY zL; rw [hZ, RM.nN]
    have hZE : Z = if ((List.range N).all fun j => isW (mulW xsA ysA xsB ysB f j)) = true then 0 else 3 := by rw [← hZ]; unfold mulE; rw [if_pos hz, RM.nN]
    rw [hX, hY, hZ]
    obtain ⟨G, hG⟩ : ∃ g, mulW xsA ysA xsB ysB f = g := ⟨_, rfl⟩
    rw [hG] at hZE ⊢
    have hGS : ∀ j, G j = shI (sumP ysA ysB (oX j) (oY j) I) f := fun j => by rw [← hG]; exact RM.eW j
    obtain ⟨S, hS⟩ : ∃ l, outL xsA xsB = l := ⟨_, rfl⟩
    rw [hS] at hms ⊢
    have hct := fun (p : Option Addr) (i : Nat) W (h : Ints .i64 W W.heap.size p S) => rcount_any p i W.heap.size S W h (goodB_dims (hS ▸ RM.gS))
    have hcS : countE S = (N : Int) := by rw [countE_good (hS ▸ RM.gS), ← hS]; exact RM.pS
    rw [hcS] at hct
    have hat := fun (p : Option Addr) (i j : Nat) W (h : Ints .i64 W W.heap.size p S) (hj : j < N) => rat_any p i S (j : Int) W h (hS ▸ RM.gS) (by omega) (by rw [← hS, RM.pS]; omega)
    have HMS := Lib.hid hms
    have HCT := Lib.hid hct
    have HAT := Lib.hid hat
    have HRM := Lib.hid RM
    have HZE := Lib.hid hZE
    have HGS := Lib.hid hGS
    have HS := Lib.hid hS
    have HWA := Lib.hid (tenB_iff.1 tA).2.2
    have HWB := Lib.hid (tenB_iff.1 tB).2.2
    have HGA := Lib.hid (tenB_iff.1 tA).1
    have HGB := Lib.hid (tenB_iff.1 tB).1
    have hwS : ∀ x ∈ S, (Lit.int .i64 x).wf = true := fun x hx => by have := goodB_dims (hS ▸ RM.gS : goodB S = true) x hx; exact wf_i64_iff.2 ⟨by omega, by omega⟩
    have HWS := Lib.hid hwS
    have hn2 := RM.n2
    have hlast := RM.last
    have hNb := RM.nb
    have hIb := RM.i1
    have hSl : S.length = xsA.length := by rw [← hS]; exact RM.lS
    have HSL := Lib.hid hSl
    obtain ⟨ga, oa, rfl, hla, hca⟩ := hA.sh.cell (xsA.length - 1) (by omega)
    rw [hlast] at hca
    have HCA := Lib.hid hca
    have pA1 := goodB_prod (tenB_iff.1 tA).1
    have pA2 := (tenB_iff.1 tA).2.1
    have pB1 := goodB_prod (tenB_iff.1 tB).1
    have pB2 := (tenB_iff.1 tB).2.1
    obtain ⟨gb, ob, rfl, hlb, _⟩ := hA.da.cell 0 (by omega)
    obtain ⟨gd, od, rfl, hld, _⟩ := hB.da.cell 0 (by omega)
    clear pA1 pA2 pB1 pB2
    clear hms hct hcS hat RM hZE hGS hS hwS hlast hSl hX hY hZ hG hro hz hca tA tB hA hB
    go_enter Tryz.func7, Tryz.ntmps7
    have F1 := Lib.hid ((((Fr.start (w := w) (I := [(.i64, (some ⟨ga, oa, none⟩), xsA), (.i64, (some ⟨gb, ob, none⟩), ysA), (.i64, a', xsB), (.i64, (some ⟨gd, od, none⟩), ysB)]) (by intro z hz; simp at hz; rcases hz with rfl | rfl | rfl | rfl; exact H0.out; exact H1.out; exact H2.out; exact H3.out)).box1 (b := w.heap.size) (by simp) [.slice (some ⟨ga, oa, none⟩) xsA.length c, .slice (some ⟨gb, ob, none⟩) ysA.length d] 26).box1 (b := w.heap.size + 1) (by simp) [.slice a' xsB.length c', .slice (some ⟨gd, od, none⟩) ysB.length d'] 26).box1 (b := w.heap.size + 1 + 1) (by simp) [.slice none 0 0, .slice none 0 0] 26)
    simp only [List.nil_append, List.cons_append] at F1
    go_upto_region 1 with fail
    obtain ⟨W1, hW1⟩ : ∃ W1, (((w.alloc (.cells #[.slice (some ⟨ga, oa, none⟩) xsA.length c, .slice (some ⟨gb, ob, none⟩) ysA.length d] 26)).alloc (.cells #[.slice a' xsB.length c', .slice (some ⟨gd, od, none⟩) ysB.length d'] 26)).alloc (.cells #[.slice none 0 0, .slice none 0 0] 26)) = W1 := ⟨_, rfl⟩
    rw [hW1] at F1 ⊢
    clear hW1
    have c0_0 := F1.out.c 0 0 rfl rfl
    have c0_1 := F1.out.c 0 1 rfl rfl
    have c1_0 := F1.out.c 1 0 rfl rfl
    have c1_1 := F1.out.c 1 1 rfl rfl
    go_upto_region 4 with (go_at_call 19; refine (HMS.out _ (F1.out.lw 0 rfl) (F1.out.lw 2 rfl)).mono ?_; rintro e w2 ⟨v, rfl, hown, hb⟩; obtain ⟨as_, cs_, rfl, _⟩ := own_shape hown; have F2 := Lib.hid (F1.out.addO hb hown); simp only [List.nil_append] at F2; clear hown hb F1 c0_0 c0_1 c1_0 c1_1)
    go_upto_region 5 with fail
    obtain ⟨Q, hQ⟩ : ∃ x, w2.heap.size = x := ⟨_, rfl⟩
    rw [hQ]
    have F4 := Lib.hid ((F2.out.box1 (b := Q) hQ [.slice as_ S.length cs_, .slice none 0 0] 26).addNil 2)
    simp only [List.nil_append, List.cons_append] at F4
    obtain ⟨W4, hW4⟩ : ∃ x, (w2.alloc (.cells #[.slice as_ S.length cs_, .slice none 0 0] 26)) = x := ⟨_, rfl⟩
    rw [hW4] at F4 ⊢
    clear hW4 hQ F2
    go_wp2_with fail
    go_loopw [11] (fun s11 wr => ∃ (j : Nat) (ab : Option Addr) (cb : Nat), j ≤ N ∧ s11 = .int .i64 j ∧ Hid (∀ i, i < j → isW (G i) = true) ∧ Hid (Fr w.heap.size w wr [(w.heap.size, [.slice (some ⟨ga, oa, none⟩) xsA.length c, .slice (some ⟨gb, ob, none⟩) ysA.length d]), (w.heap.size + 1, [.slice a' xsB.length c', .slice (some ⟨gd, od, none⟩) ysB.length d']), (w.heap.size + 1 + 1, [.slice none 0 0, .slice none 0 0]), (Q, [.slice as_ S.length cs_, .slice ab j cb])] [(.i64, (some ⟨ga, oa, none⟩), xsA), (.i64, (some ⟨gb, ob, none⟩), ysA), (.i64, a', xsB), (.i64, (some ⟨gd, od, none⟩), ysB)] [⟨3, .slice as_ S.length cs_, S.length, S.map (Value.int .i64)⟩, ⟨2, .slice ab j cb, j, ((List.range j).map G).map (Value.int .i64)⟩] [])) (fun s11 _ => N - (intOf s11).toNat)
    case atStart => exact ⟨0, none, 0, Nat.zero_le _, rfl, Lib.hid (by simp), Lib.hid (by simpa using F4.out)⟩
    case round =>
      obtain ⟨j, ab, cb, hj, rfl, HG, F5⟩ := hrel
      clear F4
      obtain ⟨wo, rfl⟩ : ∃ x : World, x = wr := ⟨_, rfl⟩
      by_cases hlt : j < N
      · skip
        have hji : (j : Int) < (N : Int) := by omega
        obtain ⟨SM, hSM⟩ : ∃ s, sumP ysA ysB (oX j) (oY j) = s := ⟨_, rfl⟩
        have HS0 : Hid (SM 0 = 0) := Lib.hid (by rw [← hSM]; rfl)
        have HS1 : Hid (∀ k, SM (k + 1) = SM k + ysA[oX j k]?.getD 0 * ysB[oY j k]?.getD 0) := Lib.hid (by rw [← hSM]; intro k; rfl)
        have HSB : Hid (∀ k, (SM k).natAbs ≤ k * (140737488355328 * 140737488355328)) := Lib.hid (by rw [← hSM]; exact sumP_bound HWA.out HWB.out _ _)
        have HGJ : Hid (G j = shI (SM I) f) := Lib.hid (by rw [← hSM]; exact HGS.out j)
        have HZF2 : Hid (∀ W, Calls Tryz.prog 20 #[.int .i64 0] W (RetZ W (SM 0))) := Lib.hid (by rw [HS0.out]; exact fun W => zfrom_any 0 W (by decide) (by decide))
        clear hSM
        go_upto_region 9 with (first | (go_at_call 17; refine (HCT.out _ _ _ (F5.out.li 0 (k := .i64) (xs := S) rfl HWS.out)).mono ?_; rintro e w' ⟨rfl, rfl⟩) | (go_at_call 20; refine (HZF2.out _).mono ?_; rintro e w6 ⟨az, cz, rfl, hN, hb⟩; have F6 := Lib.hid (F5.out.next hb); have HN := Lib.hid hN; clear hN hb F5) | fail)
        obtain ⟨Q5, hQ5⟩ : ∃ x, w6.heap.size = x := ⟨_, rfl⟩
        rw [hQ5]
        have F7 := Lib.hid (F6.out.box1 (b := Q5) hQ5 [.bool (decide (SM 0 < 0)), .slice az (dig 18446744073709551616 (SM 0).natAbs).length cz] 52)
        simp only [List.nil_append, List.cons_append] at F7
        have HN7 := Lib.hid (HN.out.next ((Below.refl _ _).alloc (Nat.le_refl _) (.cells #[.bool (decide (SM 0 < 0)), .slice az (dig 18446744073709551616 (SM 0).natAbs).length cz] 52)))
        obtain ⟨W7, hW7⟩ : ∃ x, (w6.alloc (.cells #[.bool (decide (SM 0 < 0)), .slice az (dig 18446744073709551616 (SM 0).natAbs).length cz] 52)) = x := ⟨_, rfl⟩
        rw [hW7] at F7 HN7 ⊢
        clear hW7 hQ5 F6 HN
        go_wp2_with fail
        go_loopw [13] (fun s13 wx => ∃ (k : Nat) (az : Option Addr) (cz : Nat), k ≤ I ∧ s13 = .int .i64 k ∧ Hid (NAt wx wx.heap.size az cz (SM k).natAbs) ∧ Hid (Fr w.heap.size w wx [(w.heap.size, [.slice (some ⟨ga, oa, none⟩) xsA.length c, .slice (some ⟨gb, ob, none⟩) ysA.length d]), (w.heap.size + 1, [.slice a' xsB.length c', .slice (some ⟨gd, od, none⟩) ysB.length d']), (w.heap.size + 1 + 1, [.slice none 0 0, .slice none 0 0]), (Q, [.slice as_ S.length cs_, .slice ab j cb]), (Q5, [.bool (decide (SM k < 0)), .slice az (dig 18446744073709551616 (SM k).natAbs).length cz])] [(.i64, (some ⟨ga, oa, none⟩), xsA), (.i64, (some ⟨gb, ob, none⟩), ysA), (.i64, a', xsB), (.i64, (some ⟨gd, od, none⟩), ysB)] [⟨3, .slice as_ S.length cs_, S.length, S.map (Value.int .i64)⟩, ⟨2, .slice ab j cb, j, ((List.range j).map G).map (Value.int .i64)⟩] [])) (fun s13 _ => I - (intOf s13).toNat)
        case atStart => exact ⟨0, az, cz, Nat.zero_le _, rfl, HN7, F7⟩
        case round =>
          obtain ⟨k, az, cz, hk, rfl, HN, F8⟩ := hrel
          clear F7 HN7
          obtain ⟨wi, rfl⟩ : ∃ x : World, x = wr := ⟨_, rfl⟩
          have u1 : ∀ [Inhabited Unit], IntKind.i64.wrap ((xsA.length : Int) - 1) = ((xsA.length - 1 : Nat) : Int) := by intro _; rw [IntWalk.i64_in _ (by omega)]; omega
          have hcI := (F8.out.bel.cell (p := ⟨ga, oa + (xsA.length - 1), none⟩) hla).trans HCA.out
          have u2 : ((xsA.length - 1 : Nat) : Int) < (xsA.length : Int) := by omega
          have u3 : xsA.length - 1 < xsA.length := by omega
          have c0_0 := F8.out.c 0 0 rfl rfl
          have c0_1 := F8.out.c 0 1 rfl rfl
          have c1_0 := F8.out.c 1 0 rfl rfl
          have c1_1 := F8.out.c 1 1 rfl rfl
          by_cases hlk : k < I
          · skip
            have hkI : (k : Int) < (I : Int) := by omega
            go_upto_region 12 with fail
            have ex := HRM.out.eX j k hlt hlk
            have ey := HRM.out.eY j k hlt hlk
            have qx := HRM.out.wX j k hlt hlk
            have qy := HRM.out.wY j k hlt hlk
            have bx := HRM.out.bX j k hlt hlk
            have by_ := HRM.out.bY j k hlt hlk
            rw [HS.out] at ex ey qx qy
            have hil := standsI_length S (j : Int)
            rw [HSL.out] at hil
            have hpr := fun (p : Option Addr) (cp : Nat) W (hi : Ints .i64 W W.heap.size p (standsI S (j : Int))) (hc : (standsI S (j : Int)).length ≤ cp ∧ cp ≤ 9223372036854775807) (h0 : Ints .i64 W W.heap.size (some ⟨ga, oa, none⟩) xsA) (h2 : Ints .i64 W W.heap.size a' xsB) => rpair_any (some ⟨ga, oa, none⟩) a' p c c' cp xsA xsB (standsI S (j : Int)) (k : Int) W h0 h2 hi HGA.out HGB.out hil hn2 hc qx qy
            rw [ex, ey] at hpr
            have hwi : ∀ x ∈ standsI S (j : Int), (Lit.int .i64 x).wf = true := wf_stands (goodB_dims (HS.out ▸ HRM.out.gS))
            have ha9 := fun p i W h => HAT.out p i j W h hlt
            obtain ⟨IL, hIL⟩ : ∃ l, standsI S (j : Int) = l := ⟨_, rfl⟩
            rw [hIL] at hpr hwi ha9
            obtain ⟨PX, hPX⟩ : ∃ x, oX j k = x := ⟨_, rfl⟩
            obtain ⟨PY, hPY⟩ : ∃ x, oY j k = x := ⟨_, rfl⟩
            have hs1 := HS1.out k
            rw [hPX] at hpr bx hs1
            rw [hPY] at hpr by_ hs1
            have HPR := Lib.hid hpr
            have HWI := Lib.hid hwi
            have HA9 := Lib.hid ha9
            have HSK := Lib.hid hs1
            clear ex ey qx qy hil hpr hwi ha9 hIL hPX hPY hs1 c0_0 c0_1 c1_0 c1_1 hcI
            refine wp_region_parts2 (w := wi) 14 0 none [] [(fun u _ => u = .pointer (some ⟨w.heap.size, 0, none⟩)), (fun u _ => u = .slice (some ⟨ga, oa, none⟩) xsA.length c), (fun u _ => u = .pointer (some ⟨w.heap.size + 1, 0, none⟩)), (fun u _ => u = .slice a' xsB.length c'), (fun u _ => u = .slice as_ S.length cs_), (fun u _ => u = .int .i64 (j : Int)), ((IsRow wi.heap.size 3 IL.length (IL.map (Value.int .i64)))), (fun u _ => u = .int .i64 (k : Int)), (fun u _ => u = .tuple #[.int .i64 (PX : Int), .int .i64 (PY : Int)]), (fun u _ => u = .tuple #[.int .i64 (PX : Int), .int .i64 (PY : Int)]), (fun u _ => u = .int .i64 (PX : Int)), (fun u _ => u = .int .i64 (PY : Int)), (fun u _ => u = .int .i64 (PX : Int)), (fun u _ => u = .int .i64 (PY : Int))] [some 52, some 53, some 54, some 55, some 56, some 57, some 58, some 59, some 60, some 51, some 61, some 62, some 14, some 15] #[true, true, true, true, true, true, true, true, true, true, true, true, true, true] #[true, true, true, true, true, true, true, true, true, true, true, true, true, true] (by kernel_rfl) rfl (by kernel_rfl) (by kernel_rfl) rfl (by kernel_rfl) (by kernel_rfl) (.cons (carries_eq _) (.cons (carries_eq _) (.cons (carries_eq _) (.cons (carries_eq _) (.cons (carries_eq _) (.cons (carries_eq _) (.cons (isRow_carries _ _ _ _) (.cons (carries_eq _) (.cons (carries_eq _) (.cons (carries_eq _) (.cons (carries_eq _) (.cons (carries_eq _) (.cons (carries_eq _) (.cons (carries_eq _) .nil)))))))))))))) (fun vs b hvl hvb => ?_)
            obtain ⟨x0, x1, x2, x3, x4, x5, x6, x7, x8, x9, x10, x11, x12, x13, rfl⟩ : ∃ x0 x1 x2 x3 x4 x5 x6 x7 x8 x9 x10 x11 x12 x13, vs = [x0, x1, x2, x3, x4, x5, x6, x7, x8, x9, x10, x11, x12, x13] := lst14 hvl
            clear hvl
            simp only [putAll, Act.put, List.setIfInBounds_toArray, List.set_cons_zero, List.set_cons_succ] at hvb
            subst hvb
            refine ⟨(.snoc (.snoc (.snoc (.snoc (.snoc (.snoc (.snoc (.snoc (.snoc (.snoc (.snoc (.snoc (.snoc (.snoc .zero (PartOb.intro (d := (some 52)) (r := fun u _ => u = .pointer (some ⟨w.heap.size, 0, none⟩)) rfl rfl rfl rfl ?po12x0)) (PartOb.intro (d := (some 53)) (r := fun u _ => u = .slice (some ⟨ga, oa, none⟩) xsA.length c) rfl rfl rfl rfl ?po12x1)) (PartOb.intro (d := (some 54)) (r := fun u _ => u = .pointer (some ⟨w.heap.size + 1, 0, none⟩)) rfl rfl rfl rfl ?po12x2)) (PartOb.intro (d := (some 55)) (r := fun u _ => u = .slice a' xsB.length c') rfl rfl rfl rfl ?po12x3)) (PartOb.intro (d := (some 56)) (r := fun u _ => u = .slice as_ S.length cs_) rfl rfl rfl rfl ?po12x4)) (PartOb.intro (d := (some 57)) (r := fun u _ => u = .int .i64 (j : Int)) rfl rfl rfl rfl ?po12x5)) (PartOb.intro (d := (some 58)) (r := (IsRow wi.heap.size 3 IL.length (IL.map (Value.int .i64)))) rfl rfl rfl rfl ?po12x6)) (PartOb.intro (d := (some 59)) (r := fun u _ => u = .int .i64 (k : Int)) rfl rfl rfl rfl ?po12x7)) (PartOb.intro (d := (some 60)) (r := fun u _ => u = .tuple #[.int .i64 (PX : Int), .int .i64 (PY : Int)]) rfl rfl rfl rfl ?po12x8)) (PartOb.intro (d := (some 51)) (r := fun u _ => u = .tuple #[.int .i64 (PX : Int), .int .i64 (PY : Int)]) rfl rfl rfl rfl ?po12x9)) (PartOb.intro (d := (some 61)) (r := fun u _ => u = .int .i64 (PX : Int)) rfl rfl rfl rfl ?po12x10)) (PartOb.intro (d := (some 62)) (r := fun u _ => u = .int .i64 (PY : Int)) rfl rfl rfl rfl ?po12x11)) (PartOb.intro (d := (some 14)) (r := fun u _ => u = .int .i64 (PX : Int)) rfl rfl rfl rfl ?po12x12)) (PartOb.intro (d := (some 15)) (r := fun u _ => u = .int .i64 (PY : Int)) rfl rfl rfl rfl ?po12x13)), ?pend12, ?pfl12⟩
            case po12x0 =>
              intro w1 hb1 hd KK hK
              clear hd
              simp only [Act.put, List.setIfInBounds_toArray, List.set_cons_zero, List.set_cons_succ] at hK
              go_simp
              first | exact hK.out _ _ (Below.refl _ _) rfl | (have hk := hK.out _ _ (Below.refl _ _) rfl; revert hk; go_simp)
            case po12x1 =>
              intro w1 hb1 hd KK hK
              have d0 : x0 = .pointer (some ⟨w.heap.size, 0, none⟩) := hd 0 (by kernel_rfl)
              clear hd
              subst d0
              have hF := F8.out.next hb1
              have k0 := hF.c 0 0 rfl rfl
              simp only [Act.put, List.setIfInBounds_toArray, List.set_cons_zero, List.set_cons_succ] at hK
              go_simp
              first | exact hK.out _ _ (Below.refl _ _) rfl | (have hk := hK.out _ _ (Below.refl _ _) rfl; revert hk; go_simp)
            case po12x2 =>
              intro w1 hb1 hd KK hK
              clear hd
              simp only [Act.put, List.setIfInBounds_toArray, List.set_cons_zero, List.set_cons_succ] at hK
              go_simp
              first | exact hK.out _ _ (Below.refl _ _) rfl | (have hk := hK.out _ _ (Below.refl _ _) rfl; revert hk; go_simp)
            case po12x3 =>
              intro w1 hb1 hd KK hK
              have d2 : x2 = .pointer (some ⟨w.heap.size + 1, 0, none⟩) := hd 2 (by kernel_rfl)
              clear hd
              subst d2
              have hF := F8.out.next hb1
              have k0 := hF.c 1 0 rfl rfl
              simp only [Act.put, List.setIfInBounds_toArray, List.set_cons_zero, List.set_cons_succ] at hK
              go_simp
              first | exact hK.out _ _ (Below.refl _ _) rfl | (have hk := hK.out _ _ (Below.refl _ _) rfl; revert hk; go_simp)
            case po12x4 =>
              intro w1 hb1 hd KK hK
              clear hd
              simp only [Act.put, List.setIfInBounds_toArray, List.set_cons_zero, List.set_cons_succ] at hK
              go_simp
              first | exact hK.out _ _ (Below.refl _ _) rfl | (have hk := hK.out _ _ (Below.refl _ _) rfl; revert hk; go_simp)
            case po12x5 =>
              intro w1 hb1 hd KK hK
              clear hd
              simp only [Act.put, List.setIfInBounds_toArray, List.set_cons_zero, List.set_cons_succ] at hK
              go_simp
              first | exact hK.out _ _ (Below.refl _ _) rfl | (have hk := hK.out _ _ (Below.refl _ _) rfl; revert hk; go_simp)
            case po12x6 =>
              intro w1 hb1 hd KK hK
              have d4 : x4 = .slice as_ S.length cs_ := hd 4 (by kernel_rfl)
              have d5 : x5 = .int .i64 (j : Int) := hd 5 (by kernel_rfl)
              clear hd
              subst d4
              subst d5
              simp only [Act.put, List.setIfInBounds_toArray, List.set_cons_zero, List.set_cons_succ] at hK
              go_simp
              go_at_call 22
              refine (HA9.out _ _ w1 ((F8.out.next hb1).li 0 (k := .i64) (xs := S) rfl HWS.out)).mono ?_
              rintro e w2 ⟨v, rfl, hown, hb⟩
              obtain ⟨a2, c2, rfl, _⟩ := own_shape hown
              (try go_wp2_with fail)
              first | exact hK.out _ _ hb ⟨a2, c2, rfl, own_mono hown hb1.size⟩ | (have hk := hK.out _ _ hb ⟨a2, c2, rfl, own_mono hown hb1.size⟩; revert hk; go_simp)
            case po12x7 =>
              intro w1 hb1 hd KK hK
              clear hd
              simp only [Act.put, List.setIfInBounds_toArray, List.set_cons_zero, List.set_cons_succ] at hK
              go_simp
              first | exact hK.out _ _ (Below.refl _ _) rfl | (have hk := hK.out _ _ (Below.refl _ _) rfl; revert hk; go_simp)
            case po12x8 =>
              intro w1 hb1 hd KK hK
              have d1 : x1 = .slice (some ⟨ga, oa, none⟩) xsA.length c := hd 1 (by kernel_rfl)
              have d3 : x3 = .slice a' xsB.length c' := hd 3 (by kernel_rfl)
              have d6 : (IsRow wi.heap.size 3 IL.length (IL.map (Value.int .i64))) x6 w1 := hd 6 (by kernel_rfl)
              have d7 : x7 = .int .i64 (k : Int) := hd 7 (by kernel_rfl)
              clear hd
              subst d1
              subst d3
              obtain ⟨a6x, c6x, rfl, hO6⟩ := d6
              subst d7
              simp only [Act.put, List.setIfInBounds_toArray, List.set_cons_zero, List.set_cons_succ] at hK
              go_simp
              go_at_call 21
              refine (HPR.out _ _ w1 (ints_row hO6 rfl HWI.out) (own_cap hO6) ((F8.out.next hb1).lw 0 rfl) ((F8.out.next hb1).lw 2 rfl)).mono ?_
              rintro e w2 ⟨rfl, hb⟩
              (try go_wp2_with fail)
              first | exact hK.out _ _ hb rfl | (have hk := hK.out _ _ hb rfl; revert hk; go_simp)
            case po12x9 =>
              intro w1 hb1 hd KK hK
              have d8 : x8 = .tuple #[.int .i64 (PX : Int), .int .i64 (PY : Int)] := hd 8 (by kernel_rfl)
              clear hd
              subst d8
              simp only [Act.put, List.setIfInBounds_toArray, List.set_cons_zero, List.set_cons_succ] at hK
              go_simp
              first | exact hK.out _ _ (Below.refl _ _) rfl | (have hk := hK.out _ _ (Below.refl _ _) rfl; revert hk; go_simp)
            case po12x10 =>
              intro w1 hb1 hd KK hK
              have d9 : x9 = .tuple #[.int .i64 (PX : Int), .int .i64 (PY : Int)] := hd 9 (by kernel_rfl)
              clear hd
              subst d9
              simp only [Act.put, List.setIfInBounds_toArray, List.set_cons_zero, List.set_cons_succ] at hK
              go_simp
              first | exact hK.out _ _ (Below.refl _ _) rfl | (have hk := hK.out _ _ (Below.refl _ _) rfl; revert hk; go_simp)
            case po12x11 =>
              intro w1 hb1 hd KK hK
              have d9 : x9 = .tuple #[.int .i64 (PX : Int), .int .i64 (PY : Int)] := hd 9 (by kernel_rfl)
              clear hd
              subst d9
              simp only [Act.put, List.setIfInBounds_toArray, List.set_cons_zero, List.set_cons_succ] at hK
              go_simp
              first | exact hK.out _ _ (Below.refl _ _) rfl | (have hk := hK.out _ _ (Below.refl _ _) rfl; revert hk; go_simp)
            case po12x12 =>
              intro w1 hb1 hd KK hK
              have d0 : x0 = .pointer (some ⟨w.heap.size, 0, none⟩) := hd 0 (by kernel_rfl)
              have d1 : x1 = .slice (some ⟨ga, oa, none⟩) xsA.length c := hd 1 (by kernel_rfl)
              have d2 : x2 = .pointer (some ⟨w.heap.size + 1, 0, none⟩) := hd 2 (by kernel_rfl)
              have d3 : x3 = .slice a' xsB.length c' := hd 3 (by kernel_rfl)
              have d4 : x4 = .slice as_ S.length cs_ := hd 4 (by kernel_rfl)
              have d5 : x5 = .int .i64 (j : Int) := hd 5 (by kernel_rfl)
              have d6 : (IsRow wi.heap.size 3 IL.length (IL.map (Value.int .i64))) x6 w1 := hd 6 (by kernel_rfl)
              have d7 : x7 = .int .i64 (k : Int) := hd 7 (by kernel_rfl)
              have d8 : x8 = .tuple #[.int .i64 (PX : Int), .int .i64 (PY : Int)] := hd 8 (by kernel_rfl)
              have d9 : x9 = .tuple #[.int .i64 (PX : Int), .int .i64 (PY : Int)] := hd 9 (by kernel_rfl)
              have d10 : x10 = .int .i64 (PX : Int) := hd 10 (by kernel_rfl)
              clear hd
              subst d0
              subst d1
              subst d2
              subst d3
              subst d4
              subst d5
              obtain ⟨a6x, c6x, rfl, hO6⟩ := d6
              subst d7
              subst d8
              subst d9
              subst d10
              simp only [Act.put, List.setIfInBounds_toArray, List.set_cons_zero, List.set_cons_succ] at hK
              go_simp
              first | exact hK.out _ _ (Below.refl _ _) rfl | (have hk := hK.out _ _ (Below.refl _ _) rfl; revert hk; go_simp)
            case po12x13 =>
              intro w1 hb1 hd KK hK
              have d0 : x0 = .pointer (some ⟨w.heap.size, 0, none⟩) := hd 0 (by kernel_rfl)
              have d1 : x1 = .slice (some ⟨ga, oa, none⟩) xsA.length c := hd 1 (by kernel_rfl)
              have d2 : x2 = .pointer (some ⟨w.heap.size + 1, 0, none⟩) := hd 2 (by kernel_rfl)
              have d3 : x3 = .slice a' xsB.length c' := hd 3 (by kernel_rfl)
              have d4 : x4 = .slice as_ S.length cs_ := hd 4 (by kernel_rfl)
              have d5 : x5 = .int .i64 (j : Int) := hd 5 (by kernel_rfl)
              have d6 : (IsRow wi.heap.size 3 IL.length (IL.map (Value.int .i64))) x6 w1 := hd 6 (by kernel_rfl)
              have d7 : x7 = .int .i64 (k : Int) := hd 7 (by kernel_rfl)
              have d8 : x8 = .tuple #[.int .i64 (PX : Int), .int .i64 (PY : Int)] := hd 8 (by kernel_rfl)
              have d9 : x9 = .tuple #[.int .i64 (PX : Int), .int .i64 (PY : Int)] := hd 9 (by kernel_rfl)
              have d10 : x10 = .int .i64 (PX : Int) := hd 10 (by kernel_rfl)
              have d11 : x11 = .int .i64 (PY : Int) := hd 11 (by kernel_rfl)
              have d12 : x12 = .int .i64 (PX : Int) := hd 12 (by kernel_rfl)
              clear hd
              subst d0
              subst d1
              subst d2
              subst d3
              subst d4
              subst d5
              obtain ⟨a6x, c6x, rfl, hO6⟩ := d6
              subst d7
              subst d8
              subst d9
              subst d10
              subst d11
              subst d12
              simp only [Act.put, List.setIfInBounds_toArray, List.set_cons_zero, List.set_cons_succ] at hK
              go_simp
              first | exact hK.out _ _ (Below.refl _ _) rfl | (have hk := hK.out _ _ (Below.refl _ _) rfl; revert hk; go_simp)
            case pfl12 => (intro f hf; cases hf)
            case pend12 =>
            intro w1 hb1 hR hD
            have d0 : x0 = .pointer (some ⟨w.heap.size, 0, none⟩) := hR 0 (by decide)
            have d1 : x1 = .slice (some ⟨ga, oa, none⟩) xsA.length c := hR 1 (by decide)
            have d2 : x2 = .pointer (some ⟨w.heap.size + 1, 0, none⟩) := hR 2 (by decide)
            have d3 : x3 = .slice a' xsB.length c' := hR 3 (by decide)
            have d4 : x4 = .slice as_ S.length cs_ := hR 4 (by decide)
            have d5 : x5 = .int .i64 (j : Int) := hR 5 (by decide)
            have d6 : (IsRow wi.heap.size 3 IL.length (IL.map (Value.int .i64))) x6 w1 := hR 6 (by decide)
            have d7 : x7 = .int .i64 (k : Int) := hR 7 (by decide)
            have d8 : x8 = .tuple #[.int .i64 (PX : Int), .int .i64 (PY : Int)] := hR 8 (by decide)
            have d9 : x9 = .tuple #[.int .i64 (PX : Int), .int .i64 (PY : Int)] := hR 9 (by decide)
            have d10 : x10 = .int .i64 (PX : Int) := hR 10 (by decide)
            have d11 : x11 = .int .i64 (PY : Int) := hR 11 (by decide)
            have d12 : x12 = .int .i64 (PX : Int) := hR 12 (by decide)
            have d13 : x13 = .int .i64 (PY : Int) := hR 13 (by decide)
            clear hR hD
            subst d0
            subst d1
            subst d2
            subst d3
            subst d4
            subst d5
            obtain ⟨a6x, c6x, rfl, hO6⟩ := d6
            subst d7
            subst d8
            subst d9
            subst d10
            subst d11
            subst d12
            subst d13
            refine wpAny_done (by kernel_rfl) ?_ _
            have F9 := Lib.hid (F8.out.next hb1)
            have HN9 := Lib.hid (HN.out.next hb1)
            clear hb1 F8 HN
            obtain ⟨wq, rfl⟩ : ∃ x : World, x = w1 := ⟨_, rfl⟩
            obtain ⟨x, hx⟩ : ∃ x, ysA[PX]?.getD 0 = x := ⟨_, rfl⟩
            obtain ⟨y, hy⟩ : ∃ x, ysB[PY]?.getD 0 = x := ⟨_, rfl⟩
            have hsk := HSK.out
            rw [hx, hy] at hsk
            have hxw : isW x = true := by rw [← hx, List.getElem?_eq_getElem bx]; exact HWA.out _ (List.getElem_mem bx)
            have hyw : isW y = true := by rw [← hy, List.getElem?_eq_getElem by_]; exact HWB.out _ (List.getElem_mem by_)
            obtain ⟨b9, o9, he, hlx, hcx⟩ := (F9.out.l 1 rfl).cell PX bx
            cases he
            obtain ⟨b9, o9, he, hly, hcy⟩ := (F9.out.l 3 rfl).cell PY by_
            cases he
            rw [hx] at hcx
            rw [hy] at hcy
            have hxb := isW_iff.1 hxw
            have hyb := isW_iff.1 hyw
            have hab : x.natAbs * y.natAbs ≤ 140737488355328 * 140737488355328 := Nat.mul_le_mul (by omega) (by omega)
            rw [← Int.natAbs_mul] at hab
            have hsb := HSB.out k
            have hkb : k * (140737488355328 * 140737488355328) ≤ 4096 * (140737488355328 * 140737488355328) := Nat.mul_le_mul_right _ (by omega)
            have HF1 := Lib.hid (fun W => zfrom_any x W (by omega) (by omega))
            have HF2 := Lib.hid (fun W => zfrom_any y W (by omega) (by omega))
            have HT3 := Lib.hid (fun p q c d W h h2 => ztimes_any p q c d x y W h h2 (dig_word (by omega)) (dig_word (by omega)))
            have HP4 := Lib.hid (fun p q c d W h h2 => zplus_any p q c d (SM k) (x * y) (SM (k + 1)) W h h2 (dig_word (by omega)) (dig_word (by omega)) hsk.symm)
            have HCX := Lib.hid hcx
            have HCY := Lib.hid hcy
            have bxi : (PX : Int) < (ysA.length : Int) := by omega
            have byi : (PY : Int) < (ysB.length : Int) := by omega
            obtain ⟨XY, hXY⟩ : ∃ z, x * y = z := ⟨_, rfl⟩
            rw [hXY] at HT3 HP4
            clear hx hy hsk hxw hyw hcx hcy hxb hyb hab hsb hkb hXY
            go_upto_region 13 with fail
            refine wp_region_parts2 (w := wq) 15 1 none [] [(fun u _ => u = .agg #[.bool (decide (SM k < 0)), .slice az (dig 18446744073709551616 (SM k).natAbs).length cz]), (fun u _ => u = .pointer (some ⟨w.heap.size, 1, none⟩)), (fun u _ => u = .slice (some ⟨gb, ob, none⟩) ysA.length d), (fun u _ => u = .int .i64 (PX : Int)), (fun u _ => u = .pointer (some ⟨gb, ob + PX, none⟩)), (fun u _ => u = .int .i64 x), ((IsZ x)), (fun u _ => u = .pointer (some ⟨w.heap.size + 1, 1, none⟩)), (fun u _ => u = .slice (some ⟨gd, od, none⟩) ysB.length d'), (fun u _ => u = .int .i64 (PY : Int)), (fun u _ => u = .pointer (some ⟨gd, od + PY, none⟩)), (fun u _ => u = .int .i64 y), ((IsZ y)), ((IsZ XY)), ((IsZ (SM (k + 1))))] [some 63, some 64, some 65, some 66, some 67, some 68, some 69, some 70, some 71, some 72, some 73, some 74, some 75, some 76, some 77, none] #[true, true, true, true, true, true, true, true, true, true, true, true, true, true, true, false] #[true, true, true, true, true, true, true, true, true, true, true, true, true, true, true, false] (by kernel_rfl) rfl (by kernel_rfl) (by kernel_rfl) rfl (by kernel_rfl) (by kernel_rfl) (.cons (carries_eq _) (.cons (carries_eq _) (.cons (carries_eq _) (.cons (carries_eq _) (.cons (carries_eq _) (.cons (carries_eq _) (.cons (isZ_carries _) (.cons (carries_eq _) (.cons (carries_eq _) (.cons (carries_eq _) (.cons (carries_eq _) (.cons (carries_eq _) (.cons (isZ_carries _) (.cons (isZ_carries _) (.cons (isZ_carries _) .nil))))))))))))))) (fun vs b hvl hvb => ?_)
            obtain ⟨x0, x1, x2, x3, x4, x5, x6, x7, x8, x9, x10, x11, x12, x13, x14, x15, rfl⟩ : ∃ x0 x1 x2 x3 x4 x5 x6 x7 x8 x9 x10 x11 x12 x13 x14 x15, vs = [x0, x1, x2, x3, x4, x5, x6, x7, x8, x9, x10, x11, x12, x13, x14, x15] := lst16 hvl
            clear hvl
            simp only [putAll, Act.put, List.setIfInBounds_toArray, List.set_cons_zero, List.set_cons_succ] at hvb
            subst hvb
            refine ⟨(.snoc (.snoc (.snoc (.snoc (.snoc (.snoc (.snoc (.snoc (.snoc (.snoc (.snoc (.snoc (.snoc (.snoc (.snoc .zero (PartOb.intro (d := (some 63)) (r := fun u _ => u = .agg #[.bool (decide (SM k < 0)), .slice az (dig 18446744073709551616 (SM k).natAbs).length cz]) rfl rfl rfl rfl ?po13x0)) (PartOb.intro (d := (some 64)) (r := fun u _ => u = .pointer (some ⟨w.heap.size, 1, none⟩)) rfl rfl rfl rfl ?po13x1)) (PartOb.intro (d := (some 65)) (r := fun u _ => u = .slice (some ⟨gb, ob, none⟩) ysA.length d) rfl rfl rfl rfl ?po13x2)) (PartOb.intro (d := (some 66)) (r := fun u _ => u = .int .i64 (PX : Int)) rfl rfl rfl rfl ?po13x3)) (PartOb.intro (d := (some 67)) (r := fun u _ => u = .pointer (some ⟨gb, ob + PX, none⟩)) rfl rfl rfl rfl ?po13x4)) (PartOb.intro (d := (some 68)) (r := fun u _ => u = .int .i64 x) rfl rfl rfl rfl ?po13x5)) (PartOb.intro (d := (some 69)) (r := (IsZ x)) rfl rfl rfl rfl ?po13x6)) (PartOb.intro (d := (some 70)) (r := fun u _ => u = .pointer (some ⟨w.heap.size + 1, 1, none⟩)) rfl rfl rfl rfl ?po13x7)) (PartOb.intro (d := (some 71)) (r := fun u _ => u = .slice (some ⟨gd, od, none⟩) ysB.length d') rfl rfl rfl rfl ?po13x8)) (PartOb.intro (d := (some 72)) (r := fun u _ => u = .int .i64 (PY : Int)) rfl rfl rfl rfl ?po13x9)) (PartOb.intro (d := (some 73)) (r := fun u _ => u = .pointer (some ⟨gd, od + PY, none⟩)) rfl rfl rfl rfl ?po13x10)) (PartOb.intro (d := (some 74)) (r := fun u _ => u = .int .i64 y) rfl rfl rfl rfl ?po13x11)) (PartOb.intro (d := (some 75)) (r := (IsZ y)) rfl rfl rfl rfl ?po13x12)) (PartOb.intro (d := (some 76)) (r := (IsZ XY)) rfl rfl rfl rfl ?po13x13)) (PartOb.intro (d := (some 77)) (r := (IsZ (SM (k + 1)))) rfl rfl rfl rfl ?po13x14)), ?pend13, ?pfl13⟩
            case po13x0 =>
              intro w1 hb1 hd KK hK
              clear hd
              have hF := F9.out.next hb1
              have k0 := hF.c 4 0 rfl rfl
              have k1 := hF.c 4 1 rfl rfl
              simp only [Act.put, List.setIfInBounds_toArray, List.set_cons_zero, List.set_cons_succ] at hK
              go_simp
              first | exact hK.out _ _ (Below.refl _ _) rfl | (have hk := hK.out _ _ (Below.refl _ _) rfl; revert hk; go_simp)
            case po13x1 =>
              intro w1 hb1 hd KK hK
              clear hd
              simp only [Act.put, List.setIfInBounds_toArray, List.set_cons_zero, List.set_cons_succ] at hK
              go_simp
              first | exact hK.out _ _ (Below.refl _ _) rfl | (have hk := hK.out _ _ (Below.refl _ _) rfl; revert hk; go_simp)
            case po13x2 =>
              intro w1 hb1 hd KK hK
              have d1 : x1 = .pointer (some ⟨w.heap.size, 1, none⟩) := hd 1 (by kernel_rfl)
              clear hd
              subst d1
              have hF := F9.out.next hb1
              have k1 := hF.c 0 1 rfl rfl
              simp only [Act.put, List.setIfInBounds_toArray, List.set_cons_zero, List.set_cons_succ] at hK
              go_simp
              first | exact hK.out _ _ (Below.refl _ _) rfl | (have hk := hK.out _ _ (Below.refl _ _) rfl; revert hk; go_simp)
            case po13x3 =>
              intro w1 hb1 hd KK hK
              clear hd
              simp only [Act.put, List.setIfInBounds_toArray, List.set_cons_zero, List.set_cons_succ] at hK
              go_simp
              first | exact hK.out _ _ (Below.refl _ _) rfl | (have hk := hK.out _ _ (Below.refl _ _) rfl; revert hk; go_simp)
            case po13x4 =>
              intro w1 hb1 hd KK hK
              have d2 : x2 = .slice (some ⟨gb, ob, none⟩) ysA.length d := hd 2 (by kernel_rfl)
              have d3 : x3 = .int .i64 (PX : Int) := hd 3 (by kernel_rfl)
              clear hd
              subst d2
              subst d3
              simp only [Act.put, List.setIfInBounds_toArray, List.set_cons_zero, List.set_cons_succ] at hK
              go_simp
              first | exact hK.out _ _ (Below.refl _ _) rfl | (have hk := hK.out _ _ (Below.refl _ _) rfl; revert hk; go_simp)
            case po13x5 =>
              intro w1 hb1 hd KK hK
              have d4 : x4 = .pointer (some ⟨gb, ob + PX, none⟩) := hd 4 (by kernel_rfl)
              clear hd
              subst d4
              have hcx := ((F9.out.next hb1).bel.cell (p := ⟨gb, ob + PX, none⟩) hlx).trans ((F9.out.bel.cell (p := ⟨gb, ob + PX, none⟩) hlx).symm.trans HCX.out)
              simp only [Act.put, List.setIfInBounds_toArray, List.set_cons_zero, List.set_cons_succ] at hK
              go_simp
              first | exact hK.out _ _ (Below.refl _ _) rfl | (have hk := hK.out _ _ (Below.refl _ _) rfl; revert hk; go_simp)
            case po13x6 =>
              intro w1 hb1 hd KK hK
              have d5 : x5 = .int .i64 x := hd 5 (by kernel_rfl)
              clear hd
              subst d5
              simp only [Act.put, List.setIfInBounds_toArray, List.set_cons_zero, List.set_cons_succ] at hK
              go_simp
              go_at_call 20
              refine (HF1.out w1).mono ?_
              rintro e w2 ⟨a2, c2, rfl, hN2, hb⟩
              (try go_wp2_with fail)
              first | exact hK.out _ _ hb ⟨a2, c2, rfl, hN2⟩ | (have hk := hK.out _ _ hb ⟨a2, c2, rfl, hN2⟩; revert hk; go_simp)
            case po13x7 =>
              intro w1 hb1 hd KK hK
              clear hd
              simp only [Act.put, List.setIfInBounds_toArray, List.set_cons_zero, List.set_cons_succ] at hK
              go_simp
              first | exact hK.out _ _ (Below.refl _ _) rfl | (have hk := hK.out _ _ (Below.refl _ _) rfl; revert hk; go_simp)
            case po13x8 =>
              intro w1 hb1 hd KK hK
              have d7 : x7 = .pointer (some ⟨w.heap.size + 1, 1, none⟩) := hd 7 (by kernel_rfl)
              clear hd
              subst d7
              have hF := F9.out.next hb1
              have k1 := hF.c 1 1 rfl rfl
              simp only [Act.put, List.setIfInBounds_toArray, List.set_cons_zero, List.set_cons_succ] at hK
              go_simp
              first | exact hK.out _ _ (Below.refl _ _) rfl | (have hk := hK.out _ _ (Below.refl _ _) rfl; revert hk; go_simp)
            case po13x9 =>
              intro w1 hb1 hd KK hK
              clear hd
              simp only [Act.put, List.setIfInBounds_toArray, List.set_cons_zero, List.set_cons_succ] at hK
              go_simp
              first | exact hK.out _ _ (Below.refl _ _) rfl | (have hk := hK.out _ _ (Below.refl _ _) rfl; revert hk; go_simp)
            case po13x10 =>
              intro w1 hb1 hd KK hK
              have d8 : x8 = .slice (some ⟨gd, od, none⟩) ysB.length d' := hd 8 (by kernel_rfl)
              have d9 : x9 = .int .i64 (PY : Int) := hd 9 (by kernel_rfl)
              clear hd
              subst d8
              subst d9
              simp only [Act.put, List.setIfInBounds_toArray, List.set_cons_zero, List.set_cons_succ] at hK
              go_simp
              first | exact hK.out _ _ (Below.refl _ _) rfl | (have hk := hK.out _ _ (Below.refl _ _) rfl; revert hk; go_simp)
            case po13x11 =>
              intro w1 hb1 hd KK hK
              have d10 : x10 = .pointer (some ⟨gd, od + PY, none⟩) := hd 10 (by kernel_rfl)
              clear hd
              subst d10
              have hcy := ((F9.out.next hb1).bel.cell (p := ⟨gd, od + PY, none⟩) hly).trans ((F9.out.bel.cell (p := ⟨gd, od + PY, none⟩) hly).symm.trans HCY.out)
              simp only [Act.put, List.setIfInBounds_toArray, List.set_cons_zero, List.set_cons_succ] at hK
              go_simp
              first | exact hK.out _ _ (Below.refl _ _) rfl | (have hk := hK.out _ _ (Below.refl _ _) rfl; revert hk; go_simp)
            case po13x12 =>
              intro w1 hb1 hd KK hK
              have d6 : (IsZ x) x6 w1 := hd 6 (by kernel_rfl)
              have d11 : x11 = .int .i64 y := hd 11 (by kernel_rfl)
              clear hd
              obtain ⟨a6z, c6z, rfl, hN6⟩ := d6
              subst d11
              simp only [Act.put, List.setIfInBounds_toArray, List.set_cons_zero, List.set_cons_succ] at hK
              go_simp
              go_at_call 20
              refine (HF2.out w1).mono ?_
              rintro e w2 ⟨a2, c2, rfl, hN2, hb⟩
              (try go_wp2_with fail)
              first | exact hK.out _ _ hb ⟨a2, c2, rfl, hN2⟩ | (have hk := hK.out _ _ hb ⟨a2, c2, rfl, hN2⟩; revert hk; go_simp)
            case po13x13 =>
              intro w1 hb1 hd KK hK
              have d6 : (IsZ x) x6 w1 := hd 6 (by kernel_rfl)
              have d12 : (IsZ y) x12 w1 := hd 12 (by kernel_rfl)
              clear hd
              obtain ⟨a6z, c6z, rfl, hN6⟩ := d6
              obtain ⟨a12z, c12z, rfl, hN12⟩ := d12
              simp only [Act.put, List.setIfInBounds_toArray, List.set_cons_zero, List.set_cons_succ] at hK
              go_simp
              go_at_call 24
              refine (HT3.out _ _ _ _ w1 hN6 hN12).mono ?_
              rintro e w2 ⟨a2, c2, rfl, hN2, hb⟩
              (try go_wp2_with fail)
              first | exact hK.out _ _ hb ⟨a2, c2, rfl, hN2⟩ | (have hk := hK.out _ _ hb ⟨a2, c2, rfl, hN2⟩; revert hk; go_simp)
            case po13x14 =>
              intro w1 hb1 hd KK hK
              have d0 : x0 = .agg #[.bool (decide (SM k < 0)), .slice az (dig 18446744073709551616 (SM k).natAbs).length cz] := hd 0 (by kernel_rfl)
              have d13 : (IsZ XY) x13 w1 := hd 13 (by kernel_rfl)
              clear hd
              subst d0
              obtain ⟨a13z, c13z, rfl, hN13⟩ := d13
              simp only [Act.put, List.setIfInBounds_toArray, List.set_cons_zero, List.set_cons_succ] at hK
              go_simp
              go_at_call 23
              refine (HP4.out _ _ _ _ w1 (HN9.out.next hb1) hN13).mono ?_
              rintro e w2 ⟨a2, c2, rfl, hN2, hb⟩
              (try go_wp2_with fail)
              first | exact hK.out _ _ hb ⟨a2, c2, rfl, hN2⟩ | (have hk := hK.out _ _ hb ⟨a2, c2, rfl, hN2⟩; revert hk; go_simp)
            case pfl13 => (intro f hf; cases hf)
            case pend13 =>
            intro w1 hb1 hR hD
            have d0 : x0 = .agg #[.bool (decide (SM k < 0)), .slice az (dig 18446744073709551616 (SM k).natAbs).length cz] := hR 0 (by decide)
            have d1 : x1 = .pointer (some ⟨w.heap.size, 1, none⟩) := hR 1 (by decide)
            have d2 : x2 = .slice (some ⟨gb, ob, none⟩) ysA.length d := hR 2 (by decide)
            have d3 : x3 = .int .i64 (PX : Int) := hR 3 (by decide)
            have d4 : x4 = .pointer (some ⟨gb, ob + PX, none⟩) := hR 4 (by decide)
            have d5 : x5 = .int .i64 x := hR 5 (by decide)
            have d6 : (IsZ x) x6 w1 := hR 6 (by decide)
            have d7 : x7 = .pointer (some ⟨w.heap.size + 1, 1, none⟩) := hR 7 (by decide)
            have d8 : x8 = .slice (some ⟨gd, od, none⟩) ysB.length d' := hR 8 (by decide)
            have d9 : x9 = .int .i64 (PY : Int) := hR 9 (by decide)
            have d10 : x10 = .pointer (some ⟨gd, od + PY, none⟩) := hR 10 (by decide)
            have d11 : x11 = .int .i64 y := hR 11 (by decide)
            have d12 : (IsZ y) x12 w1 := hR 12 (by decide)
            have d13 : (IsZ XY) x13 w1 := hR 13 (by decide)
            have d14 : (IsZ (SM (k + 1))) x14 w1 := hR 14 (by decide)
            clear hR hD
            subst d0
            subst d1
            subst d2
            subst d3
            subst d4
            subst d5
            obtain ⟨a6z, c6z, rfl, hN6⟩ := d6
            subst d7
            subst d8
            subst d9
            subst d10
            subst d11
            obtain ⟨a12z, c12z, rfl, hN12⟩ := d12
            obtain ⟨a13z, c13z, rfl, hN13⟩ := d13
            obtain ⟨a14z, c14z, rfl, hN14⟩ := d14
            refine wpAny_ready (rs := [15]) (by kernel_rfl) (by simp) (AllReady.cons rfl (fun KK hK => ?_) AllReady.nil)
            have G9 := F9.out.next hb1
            have k40 := G9.c 4 0 rfl rfl
            have k41 := G9.c 4 1 rfl rfl
            have k42 := G9.f 4 0 rfl rfl
            have k43 := G9.f 4 1 rfl rfl
            go_simp
            refine hK _ _ ?_
            clear hK KK
            try simp only [putAll, Act.put, List.setIfInBounds_toArray, List.set_cons_zero, List.set_cons_succ]
            refine wpAny_done (by kernel_rfl) ?_ _
            have F10 := Lib.hid (G9.set 4 rfl (by simp) [.bool (decide (SM (k + 1) < 0)), .slice a14z (dig 18446744073709551616 (SM (k + 1)).natAbs).length c14z] rfl)
            simp only [setL, Nat.reduceAdd, List.set_cons_zero, List.set_cons_succ] at F10
            have HN10 := Lib.hid (nat_set (q := Q5) (o := 1) (v' := .slice a14z (dig 18446744073709551616 (SM (k + 1)).natAbs).length c14z) (nat_set (q := Q5) (o := 0) (v' := .bool (decide (SM (k + 1) < 0))) hN14 k40 (by simp)) (v := .slice az (dig 18446744073709551616 (SM k).natAbs).length cz) (by go_simp) (by simp))
            obtain ⟨W10, hW10⟩ : ∃ x, (w1.setCell ⟨Q5, 0, none⟩ (.bool (decide (SM (k + 1) < 0)))).setCell ⟨Q5, 1, none⟩ (.slice a14z (dig 18446744073709551616 (SM (k + 1)).natAbs).length c14z) = x := ⟨_, rfl⟩
            rw [hW10] at F10 HN10 ⊢
            clear hW10 G9 k40 k41 k42 k43 hN6 hN12 hN13 hN14 F9 HN9 hb1
            go_wp2
            go_roundw
            case rel => exact ⟨k + 1, a14z, c14z, by omega, by go_num, HN10, F10⟩
            case measure => simp [intOf]; omega
          · obtain rfl : I = k := by omega
            obtain ⟨hmk, hnr⟩ := sum_near (x := SM I) (f := f) (by omega) (Nat.le_trans (HSB.out I) (Nat.mul_le_mul_right _ (by omega))) w
            rw [← HGJ.out] at hnr
            have hup := fun p cp W h => up2_any p cp 1 f W h (by decide) (by omega)
            rw [Nat.one_mul] at hup
            have hno := fun W => nof_any 1 (by decide) W
            obtain ⟨RQ, hRQ⟩ : ∃ y, ratQ (SM I) (2 ^ f) = y := ⟨_, rfl⟩
            obtain ⟨RK, hRK⟩ : ∃ y, ratK (SM I) (2 ^ f) = y := ⟨_, rfl⟩
            rw [hRQ, hRK] at hmk hnr
            obtain ⟨PF, hPF⟩ : ∃ p, (2 : Nat) ^ f = p := ⟨_, rfl⟩
            rw [hPF] at hmk hup
            obtain ⟨gj, hgj⟩ : ∃ g, G j = g := ⟨_, rfl⟩
            rw [hgj] at hnr
            have HMK := Lib.hid hmk
            have HNR := Lib.hid hnr
            have HUP := Lib.hid hup
            have HNO := Lib.hid hno
            have HGE := Lib.hid hgj
            clear hmk hnr hup hno hPF hRQ hRK hgj HGJ
            go_upto_region 14 with fail
            clear c0_0 c0_1 c1_0 c1_1 hcI
            refine wp_region_parts2 (w := wi) 11 0 none [] [(fun u _ => u = .agg #[.bool (decide (SM I < 0)), .slice az (dig 18446744073709551616 (SM I).natAbs).length cz]), ((IsNat 1)), (fun u _ => u = .int .i64 (f : Int)), ((IsNat PF)), ((IsRat RQ RK)), (fun u _ => u = .tuple #[.int .i64 (wordV gj), .int .i64 (wordE gj)]), (fun u _ => u = .tuple #[.int .i64 (wordV gj), .int .i64 (wordE gj)]), (fun u _ => u = .int .i64 (wordV gj)), (fun u _ => u = .int .i64 (wordE gj)), (fun u _ => u = .int .i64 (wordV gj)), (fun u _ => u = .int .i64 (wordE gj))] [some 79, some 80, some 81, some 82, some 83, some 84, some 78, some 85, some 86, some 16, some 17] #[true, true, true, true, true, true, true, true, true, true, true] #[true, true, true, true, true, true, true, true, true, true, true] (by kernel_rfl) rfl (by kernel_rfl) (by kernel_rfl) rfl (by kernel_rfl) (by kernel_rfl) (.cons (carries_eq _) (.cons (isNat_carries _) (.cons (carries_eq _) (.cons (isNat_carries _) (.cons (isRat_carries _ _) (.cons (carries_eq _) (.cons (carries_eq _) (.cons (carries_eq _) (.cons (carries_eq _) (.cons (carries_eq _) (.cons (carries_eq _) .nil))))))))))) (fun vs b hvl hvb => ?_)
            obtain ⟨x0, x1, x2, x3, x4, x5, x6, x7, x8, x9, x10, rfl⟩ : ∃ x0 x1 x2 x3 x4 x5 x6 x7 x8 x9 x10, vs = [x0, x1, x2, x3, x4, x5, x6, x7, x8, x9, x10] := lst11 hvl
            clear hvl
            simp only [putAll, Act.put, List.setIfInBounds_toArray, List.set_cons_zero, List.set_cons_succ] at hvb
            subst hvb
            refine ⟨(.snoc (.snoc (.snoc (.snoc (.snoc (.snoc (.snoc (.snoc (.snoc (.snoc (.snoc .zero (PartOb.intro (d := (some 79)) (r := fun u _ => u = .agg #[.bool (decide (SM I < 0)), .slice az (dig 18446744073709551616 (SM I).natAbs).length cz]) rfl rfl rfl rfl ?po14x0)) (PartOb.intro (d := (some 80)) (r := (IsNat 1)) rfl rfl rfl rfl ?po14x1)) (PartOb.intro (d := (some 81)) (r := fun u _ => u = .int .i64 (f : Int)) rfl rfl rfl rfl ?po14x2)) (PartOb.intro (d := (some 82)) (r := (IsNat PF)) rfl rfl rfl rfl ?po14x3)) (PartOb.intro (d := (some 83)) (r := (IsRat RQ RK)) rfl rfl rfl rfl ?po14x4)) (PartOb.intro (d := (some 84)) (r := fun u _ => u = .tuple #[.int .i64 (wordV gj), .int .i64 (wordE gj)]) rfl rfl rfl rfl ?po14x5)) (PartOb.intro (d := (some 78)) (r := fun u _ => u = .tuple #[.int .i64 (wordV gj), .int .i64 (wordE gj)]) rfl rfl rfl rfl ?po14x6)) (PartOb.intro (d := (some 85)) (r := fun u _ => u = .int .i64 (wordV gj)) rfl rfl rfl rfl ?po14x7)) (PartOb.intro (d := (some 86)) (r := fun u _ => u = .int .i64 (wordE gj)) rfl rfl rfl rfl ?po14x8)) (PartOb.intro (d := (some 16)) (r := fun u _ => u = .int .i64 (wordV gj)) rfl rfl rfl rfl ?po14x9)) (PartOb.intro (d := (some 17)) (r := fun u _ => u = .int .i64 (wordE gj)) rfl rfl rfl rfl ?po14x10)), ?pend14, ?pfl14⟩
            case po14x0 =>
              intro w1 hb1 hd KK hK
              clear hd
              have hF := F8.out.next hb1
              have k0 := hF.c 4 0 rfl rfl
              have k1 := hF.c 4 1 rfl rfl
              simp only [Act.put, List.setIfInBounds_toArray, List.set_cons_zero, List.set_cons_succ] at hK
              go_simp
              first | exact hK.out _ _ (Below.refl _ _) rfl | (have hk := hK.out _ _ (Below.refl _ _) rfl; revert hk; go_simp)
            case po14x1 =>
              intro w1 hb1 hd KK hK
              clear hd
              simp only [Act.put, List.setIfInBounds_toArray, List.set_cons_zero, List.set_cons_succ] at hK
              go_simp
              go_at_call 28
              refine (HNO.out w1).mono ?_
              rintro e w2 ⟨a2, c2, rfl, hN2, hb⟩
              (try go_wp2_with fail)
              first | exact hK.out _ _ hb ⟨a2, c2, rfl, hN2⟩ | (have hk := hK.out _ _ hb ⟨a2, c2, rfl, hN2⟩; revert hk; go_simp)
            case po14x2 =>
              intro w1 hb1 hd KK hK
              clear hd
              simp only [Act.put, List.setIfInBounds_toArray, List.set_cons_zero, List.set_cons_succ] at hK
              go_simp
              first | exact hK.out _ _ (Below.refl _ _) rfl | (have hk := hK.out _ _ (Below.refl _ _) rfl; revert hk; go_simp)
            case po14x3 =>
              intro w1 hb1 hd KK hK
              have d1 : (IsNat 1) x1 w1 := hd 1 (by kernel_rfl)
              have d2 : x2 = .int .i64 (f : Int) := hd 2 (by kernel_rfl)
              clear hd
              obtain ⟨a1z, c1z, rfl, hN1⟩ := d1
              subst d2
              simp only [Act.put, List.setIfInBounds_toArray, List.set_cons_zero, List.set_cons_succ] at hK
              go_simp
              go_at_call 27
              refine (HUP.out _ _ w1 hN1).mono ?_
              rintro e w2 ⟨a2, c2, rfl, hN2, hb⟩
              (try go_wp2_with fail)
              first | exact hK.out _ _ hb ⟨a2, c2, rfl, hN2⟩ | (have hk := hK.out _ _ hb ⟨a2, c2, rfl, hN2⟩; revert hk; go_simp)
            case po14x4 =>
              intro w1 hb1 hd KK hK
              have d0 : x0 = .agg #[.bool (decide (SM I < 0)), .slice az (dig 18446744073709551616 (SM I).natAbs).length cz] := hd 0 (by kernel_rfl)
              have d3 : (IsNat PF) x3 w1 := hd 3 (by kernel_rfl)
              clear hd
              subst d0
              obtain ⟨a3z, c3z, rfl, hN3⟩ := d3
              simp only [Act.put, List.setIfInBounds_toArray, List.set_cons_zero, List.set_cons_succ] at hK
              go_simp
              go_at_call 26
              refine (HMK.out _ _ _ _ w1 (HN.out.next hb1) hN3).mono ?_
              rintro e w2 ⟨a2, c2, b2, d2, rfl, hN2, hM2, hb⟩
              (try go_wp2_with fail)
              first | exact hK.out _ _ hb ⟨a2, c2, b2, d2, rfl, hN2, hM2⟩ | (have hk := hK.out _ _ hb ⟨a2, c2, b2, d2, rfl, hN2, hM2⟩; revert hk; go_simp)
            case po14x5 =>
              intro w1 hb1 hd KK hK
              have d4 : (IsRat RQ RK) x4 w1 := hd 4 (by kernel_rfl)
              clear hd
              obtain ⟨a4z, c4z, b4z, d4z, rfl, hN4, hM4⟩ := d4
              simp only [Act.put, List.setIfInBounds_toArray, List.set_cons_zero, List.set_cons_succ] at hK
              go_simp
              go_at_call 25
              refine (HNR.out _ _ _ _ w1 hN4 hM4).mono ?_
              rintro e w2 ⟨he, hb⟩
              unfold RetV at he
              subst he
              (try go_wp2_with fail)
              first | exact hK.out _ _ hb rfl | (have hk := hK.out _ _ hb rfl; revert hk; go_simp)
            case po14x6 =>
              intro w1 hb1 hd KK hK
              have d5 : x5 = .tuple #[.int .i64 (wordV gj), .int .i64 (wordE gj)] := hd 5 (by kernel_rfl)
              clear hd
              subst d5
              simp only [Act.put, List.setIfInBounds_toArray, List.set_cons_zero, List.set_cons_succ] at hK
              go_simp
              first | exact hK.out _ _ (Below.refl _ _) rfl | (have hk := hK.out _ _ (Below.refl _ _) rfl; revert hk; go_simp)
            case po14x7 =>
              intro w1 hb1 hd KK hK
              have d6 : x6 = .tuple #[.int .i64 (wordV gj), .int .i64 (wordE gj)] := hd 6 (by kernel_rfl)
              clear hd
              subst d6
              simp only [Act.put, List.setIfInBounds_toArray, List.set_cons_zero, List.set_cons_succ] at hK
              go_simp
              first | exact hK.out _ _ (Below.refl _ _) rfl | (have hk := hK.out _ _ (Below.refl _ _) rfl; revert hk; go_simp)
            case po14x8 =>
              intro w1 hb1 hd KK hK
              have d6 : x6 = .tuple #[.int .i64 (wordV gj), .int .i64 (wordE gj)] := hd 6 (by kernel_rfl)
              clear hd
              subst d6
              simp only [Act.put, List.setIfInBounds_toArray, List.set_cons_zero, List.set_cons_succ] at hK
              go_simp
              first | exact hK.out _ _ (Below.refl _ _) rfl | (have hk := hK.out _ _ (Below.refl _ _) rfl; revert hk; go_simp)
            case po14x9 =>
              intro w1 hb1 hd KK hK
              have d0 : x0 = .agg #[.bool (decide (SM I < 0)), .slice az (dig 18446744073709551616 (SM I).natAbs).length cz] := hd 0 (by kernel_rfl)
              have d1 : (IsNat 1) x1 w1 := hd 1 (by kernel_rfl)
              have d2 : x2 = .int .i64 (f : Int) := hd 2 (by kernel_rfl)
              have d3 : (IsNat PF) x3 w1 := hd 3 (by kernel_rfl)
              have d4 : (IsRat RQ RK) x4 w1 := hd 4 (by kernel_rfl)
              have d5 : x5 = .tuple #[.int .i64 (wordV gj), .int .i64 (wordE gj)] := hd 5 (by kernel_rfl)
              have d6 : x6 = .tuple #[.int .i64 (wordV gj), .int .i64 (wordE gj)] := hd 6 (by kernel_rfl)
              have d7 : x7 = .int .i64 (wordV gj) := hd 7 (by kernel_rfl)
              clear hd
              subst d0
              obtain ⟨a1z, c1z, rfl, hN1⟩ := d1
              subst d2
              obtain ⟨a3z, c3z, rfl, hN3⟩ := d3
              obtain ⟨a4z, c4z, b4z, d4z, rfl, hN4, hM4⟩ := d4
              subst d5
              subst d6
              subst d7
              simp only [Act.put, List.setIfInBounds_toArray, List.set_cons_zero, List.set_cons_succ] at hK
              go_simp
              first | exact hK.out _ _ (Below.refl _ _) rfl | (have hk := hK.out _ _ (Below.refl _ _) rfl; revert hk; go_simp)
            case po14x10 =>
              intro w1 hb1 hd KK hK
              have d0 : x0 = .agg #[.bool (decide (SM I < 0)), .slice az (dig 18446744073709551616 (SM I).natAbs).length cz] := hd 0 (by kernel_rfl)
              have d1 : (IsNat 1) x1 w1 := hd 1 (by kernel_rfl)
              have d2 : x2 = .int .i64 (f : Int) := hd 2 (by kernel_rfl)
              have d3 : (IsNat PF) x3 w1 := hd 3 (by kernel_rfl)
              have d4 : (IsRat RQ RK) x4 w1 := hd 4 (by kernel_rfl)
              have d5 : x5 = .tuple #[.int .i64 (wordV gj), .int .i64 (wordE gj)] := hd 5 (by kernel_rfl)
              have d6 : x6 = .tuple #[.int .i64 (wordV gj), .int .i64 (wordE gj)] := hd 6 (by kernel_rfl)
              have d7 : x7 = .int .i64 (wordV gj) := hd 7 (by kernel_rfl)
              have d8 : x8 = .int .i64 (wordE gj) := hd 8 (by kernel_rfl)
              have d9 : x9 = .int .i64 (wordV gj) := hd 9 (by kernel_rfl)
              clear hd
              subst d0
              obtain ⟨a1z, c1z, rfl, hN1⟩ := d1
              subst d2
              obtain ⟨a3z, c3z, rfl, hN3⟩ := d3
              obtain ⟨a4z, c4z, b4z, d4z, rfl, hN4, hM4⟩ := d4
              subst d5
              subst d6
              subst d7
              subst d8
              subst d9
              simp only [Act.put, List.setIfInBounds_toArray, List.set_cons_zero, List.set_cons_succ] at hK
              go_simp
              first | exact hK.out _ _ (Below.refl _ _) rfl | (have hk := hK.out _ _ (Below.refl _ _) rfl; revert hk; go_simp)
            case pfl14 => (intro f hf; cases hf)
            case pend14 =>
            intro w1 hb1 hR hD
            have d0 : x0 = .agg #[.bool (decide (SM I < 0)), .slice az (dig 18446744073709551616 (SM I).natAbs).length cz] := hR 0 (by decide)
            have d1 : (IsNat 1) x1 w1 := hR 1 (by decide)
            have d2 : x2 = .int .i64 (f : Int) := hR 2 (by decide)
            have d3 : (IsNat PF) x3 w1 := hR 3 (by decide)
            have d4 : (IsRat RQ RK) x4 w1 := hR 4 (by decide)
            have d5 : x5 = .tuple #[.int .i64 (wordV gj), .int .i64 (wordE gj)] := hR 5 (by decide)
            have d6 : x6 = .tuple #[.int .i64 (wordV gj), .int .i64 (wordE gj)] := hR 6 (by decide)
            have d7 : x7 = .int .i64 (wordV gj) := hR 7 (by decide)
            have d8 : x8 = .int .i64 (wordE gj) := hR 8 (by decide)
            have d9 : x9 = .int .i64 (wordV gj) := hR 9 (by decide)
            have d10 : x10 = .int .i64 (wordE gj) := hR 10 (by decide)
            clear hR hD
            subst d0
            obtain ⟨a1z, c1z, rfl, hN1⟩ := d1
            subst d2
            obtain ⟨a3z, c3z, rfl, hN3⟩ := d3
            obtain ⟨a4z, c4z, b4z, d4z, rfl, hN4, hM4⟩ := d4
            subst d5
            subst d6
            subst d7
            subst d8
            subst d9
            subst d10
            refine wpAny_done (by kernel_rfl) ?_ _
            have F9 := Lib.hid (F8.out.next hb1)
            clear hb1 F8 HN HMK HNR HUP HNO
            obtain ⟨wq, rfl⟩ : ∃ x : World, x = w1 := ⟨_, rfl⟩
            cases hw : isW gj with
            | false =>
              have hv : wordE gj = 3 := by unfold wordE; rw [hw]; rfl
              have hzz : Z = 3 := by
                rw [HZE.out, if_neg]
                intro hq
                have := List.all_eq_true.1 hq j (List.mem_range.2 hlt)
                rw [HGE.out, hw] at this
                cases this
              rw [hv]
              obtain rfl := hzz
              clear hw hv HZE HG HGE
              have c2_0 := F9.out.c 2 0 rfl rfl
              have c2_1 := F9.out.c 2 1 rfl rfl
              have cf2_0 := F9.out.f 2 0 rfl rfl
              have cf2_1 := F9.out.f 2 1 rfl rfl
              go_wp2
              have FZ := F9.out.set 2 rfl (by simp) [.slice none 0 0, .slice none 0 0] rfl
              simp only [setL, Nat.reduceAdd, List.set_cons_zero, List.set_cons_succ] at FZ
              have y0 := FZ.c 2 0 rfl rfl
              have y1 := FZ.c 2 1 rfl rfl
              refine bodyPost_ret (v := .tuple #[.agg #[.slice none 0 0, .slice none 0 0], .int .i64 3]) ?_ rfl (retTF_none (FZ.less (.refl _) (.refl _) (List.nil_sublist _) (.refl _)))
              rw [results_ctZ rfl]
              go_simp
            | true =>
              have hv : wordE gj = 0 := by unfold wordE; rw [hw]; rfl
              have hv2 : wordV gj = gj := by unfold wordV; rw [hw]; rfl
              rw [hv, hv2]
              have HG2 : Hid (∀ i, i < j + 1 → isW (G i) = true) := Lib.hid (fun i hi => by
                by_cases he : i < j
                · exact HG.out i he
                · obtain rfl : i = j := by omega
                  rw [HGE.out]; exact hw)
              have hra : (List.range (j + 1)).map G = (List.range j).map G ++ [gj] := by rw [List.range_succ, List.map_append, List.map_cons, List.map_nil, HGE.out]
              have HRA := Lib.hid hra
              have hq0 := F9.out.c 3 1 rfl rfl
              have hqf := F9.out.f 3 1 rfl rfl
              have hqb := (F9.out.bl 3 rfl).2
              have hqn : ¬ Q = wq.heap.size := by omega
              have hjn : j ≤ 1000000 := by omega
              have HJN := Lib.hid hjn
              clear hw hv hv2 hra hjn
              go_wp2_with (at_builtin; refine appendWZ w.heap.size (.slice ab j cb) j ((List.range j).map G) gj _ _ _ rfl rfl rfl (F9.out.r 1 rfl) rfl HJN.out F9.out.hlo ?_; intro v' w8 hown hbel hgr hob; obtain ⟨a8, c8, rfl, _⟩ := own_shape hown; rw [← HRA.out] at hown; have F10 := Lib.hid (F9.out.wroteO 1 rfl hgr hown (fun g hg => by rcases hob with h | h; exact .inl (h.symm.trans hg); exact .inr (by rw [h] at hg; injection hg with hg; omega))); simp only [List.set_cons_zero, List.set_cons_succ] at F10; clear hown hbel hgr hob F9 hq0 hqf; have hq0 := F10.out.c 3 1 rfl rfl; have hqf := F10.out.f 3 1 rfl rfl)
              have F11 := Lib.hid ((F10.out.setC 3 1 rfl (by simp) (.slice a8 (j + 1) c8)).less (.cons_cons _ (.cons_cons _ (.cons_cons _ (.cons_cons _ (.cons _ .slnil))))) (.refl _) (.refl _) (.refl _))
              simp only [List.set_cons_zero, List.set_cons_succ] at F11
              go_roundw
              case rel => exact ⟨j + 1, a8, c8, by omega, by go_num, HG2, F11⟩
              case measure => simp [intOf]; omega
      · obtain rfl : N = j := by omega
        have hzz : Z = 0 := by
          rw [HZE.out, if_pos]
          rw [List.all_eq_true]
          intro j hj
          exact HG.out j (List.mem_range.1 hj)
        obtain rfl := hzz
        have hlen : ((List.range N).map G).length = N := by simp
        obtain ⟨RY, hRY⟩ : ∃ r, (List.range N).map G = r := ⟨_, rfl⟩
        rw [hRY] at F5 hlen ⊢
        have u3_0 := F5.out.c 3 0 rfl rfl
        have u3_1 := F5.out.c 3 1 rfl rfl
        have u2_0 := F5.out.c 2 0 rfl rfl
        have u2_1 := F5.out.c 2 1 rfl rfl
        have uf2_0 := F5.out.f 2 0 rfl rfl
        have uf2_1 := F5.out.f 2 1 rfl rfl
        have HRY := Lib.hid hRY
        have HLE := Lib.hid hlen
        clear hRY hlen
        go_wp2_with (first | (go_at_call 17; refine (HCT.out _ _ _ (F5.out.li 0 (k := .i64) (xs := S) rfl HWS.out)).mono ?_; rintro e w' ⟨rfl, rfl⟩) | fail)
        have FZ := F5.out.set 2 rfl (by simp) [.slice as_ S.length cs_, .slice ab N cb] rfl
        simp only [setL, Nat.reduceAdd, List.set_cons_zero, List.set_cons_succ] at FZ
        have y0 := FZ.c 2 0 rfl rfl
        have y1 := FZ.c 2 1 rfl rfl
        refine bodyPost_ret (v := .tuple #[.agg #[.slice as_ S.length cs_, .slice ab N cb], .int .i64 0]) ?_ rfl (by rw [zL_0, zL_0]; (try rw [HRY.out]); exact ⟨as_, cs_, ab, cb, by rw [HLE.out], by rw [HLE.out]; exact FZ.rows⟩)
        rw [results_ctZ rfl]
        go_simp
  · skip
    have hE : mulE xsA ysA xsB ysB f = outE xsA xsB := by unfold mulE; rw [if_neg hz]
    have hX : mulX xsA ysA xsB ysB f = [] := by unfold mulX; rw [hE, if_neg hz]
    have hY : mulY xsA ysA xsB ysB f = [] := by unfold mulY; rw [hE, if_neg hz]
    have hro : outR xsA xsB = [] := by unfold outR; rw [if_neg hz]
    rw [hX, hY, hE]
    rw [hro] at hms
    obtain ⟨Z, hZ⟩ : ∃ z, outE xsA xsB = z := ⟨_, rfl⟩
    rw [hZ] at hms hz ⊢
    have hzb : (Z != 0) = true := by simpa using hz
    have HMS := Lib.hid hms
    clear hE hX hY hro hZ hms hz tA tB hA hB
    go_enter Tryz.func7, Tryz.ntmps7
    have F1 := Lib.hid ((((Fr.start (w := w) (I := [(.i64, a, xsA), (.i64, b, ysA), (.i64, a', xsB), (.i64, b', ysB)]) (by intro z hz; simp at hz; rcases hz with rfl | rfl | rfl | rfl; exact H0.out; exact H1.out; exact H2.out; exact H3.out)).box1 (b := w.heap.size) (by simp) [.slice a xsA.length c, .slice b ysA.length d] 26).box1 (b := w.heap.size + 1) (by simp) [.slice a' xsB.length c', .slice b' ysB.length d'] 26).box1 (b := w.heap.size + 1 + 1) (by simp) [.slice none 0 0, .slice none 0 0] 26)
    simp only [List.nil_append, List.cons_append] at F1
    go_upto_region 1 with fail
    obtain ⟨W1, hW1⟩ : ∃ W1, (((w.alloc (.cells #[.slice a xsA.length c, .slice b ysA.length d] 26)).alloc (.cells #[.slice a' xsB.length c', .slice b' ysB.length d'] 26)).alloc (.cells #[.slice none 0 0, .slice none 0 0] 26)) = W1 := ⟨_, rfl⟩
    rw [hW1] at F1 ⊢
    clear hW1
    have c0_0 := F1.out.c 0 0 rfl rfl
    have c0_1 := F1.out.c 0 1 rfl rfl
    have c1_0 := F1.out.c 1 0 rfl rfl
    have c1_1 := F1.out.c 1 1 rfl rfl
    go_wp2_with (go_at_call 19; refine (HMS.out _ (F1.out.lw 0 rfl) (F1.out.lw 2 rfl)).mono ?_; rintro e w2 ⟨v, rfl, hown, hb⟩; obtain ⟨as_, cs_, rfl, _⟩ := own_shape hown; have F2 := Lib.hid (F1.out.addO hb hown); simp only [List.nil_append] at F2; clear hown hb F1 c0_0 c0_1 c1_0 c1_1; have c2_0 := F2.out.c 2 0 rfl rfl; have c2_1 := F2.out.c 2 1 rfl rfl; have cf2_0 := F2.out.f 2 0 rfl rfl; have cf2_1 := F2.out.f 2 1 rfl rfl)
    have FZ := F2.out.set 2 rfl (by simp) [.slice none 0 0, .slice none 0 0] rfl
    simp only [setL, Nat.reduceAdd, List.set_cons_zero, List.set_cons_succ] at FZ
    have y0 := FZ.c 2 0 rfl rfl
    have y1 := FZ.c 2 1 rfl rfl
    refine bodyPost_ret (v := .tuple #[.agg #[.slice none 0 0, .slice none 0 0], .int .i64 Z]) ?_ rfl (retTF_none (FZ.less (.refl _) (.refl _) (List.nil_sublist _) (.refl _)))
    rw [results_ctZ rfl]
    go_simp
end Go.Proofs.YtddhhfhammmaaaaGreat
