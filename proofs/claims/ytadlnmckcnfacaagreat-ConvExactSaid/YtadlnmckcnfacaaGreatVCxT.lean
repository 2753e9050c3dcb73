import Derived.Test.YtadlnmckcnfacaaGreatVCxL
import Derived.Test.YtadlnmckcnfacaaGreatVCxH
set_option linter.unusedVariables false
set_option linter.unusedSimpArgs false
namespace Go.Proofs.YtadlnmckcnfacaaGreat
open Go.RowKit Go.Rt
attribute [local go_sem] Oper.semAt_some
def RetTap (w : World) (l : List TapN) (e : Ending) (w' : World) : Prop :=
 ∃ v, e = .returned v ∧ w'.ownsRow w.heap.size 63 3 v l.length (cellsT l) ∧ Below w.heap.size w w'
theorem row_capT {W : World} {base : Nat} {e : TypeId} {g n c m : Nat} {xs : List Value} (h : W.ownsRow base e 1 (.slice (some ⟨g, 0, none⟩) n c) m xs) : n ≤ c ∧ c ≤ 9223372036854775807 := by
 rcases h.2 with ⟨h1, _⟩ | ⟨g', cap, cur, h1, _, _, h2, h3, _⟩
 ·cases h1
 ·cases h1
  exact ⟨h2, by unfold maxLen at h3; omega⟩
theorem infoTap : (Tryz.prog.info? 63).map (fun i => (i.zero, i.size, i.bytes)) = some (some (.agg #[.int .i64 0, .int .i64 0, .int .i64 0]), 3, 24) := by kernel_rfl
theorem stX_true {wv : WinV} {pl tp : List Int} (h : wv.stB pl tp = true) : stX wv pl tp = wv.xs pl tp := by unfold stX; rw [if_pos h]
set_option maxRecDepth 100000 in
set_option maxHeartbeats 8000000 in
theorem rtaps_ok (a a2 a3 aQ aS aP aD : Option Addr) (c c2 c3 qn cQ cS cP cD : Nat) (xs ys ws vs : List Int) (wv : WinV) {N M T C o R NN : Nat} (w : World) (h : Ints .i64 w w.heap.size a xs) (h2 : Ints .i64 w w.heap.size a2 ws) (h3 : Ints .i64 w w.heap.size a3 (coS xs ws wv)) (hS : Ints .i64 w w.heap.size aS wv.S) (hP : Ints .i64 w w.heap.size aP wv.P) (hD : Ints .i64 w w.heap.size aD wv.D)
  (K : ConvOK xs ys ws vs wv N M T C o R NN) (hL : wv.L = xs.drop 2) (hK : wv.K = ws.drop 2) (hc3 : ws.length ≤ c2) (hc4 : c2 ≤ 9223372036854775807) :
  Calls Tryz.prog 23 #[.slice a xs.length c, .slice a2 ws.length c2, .agg #[.slice aQ qn cQ, .slice aS wv.S.length cS, .slice aP wv.P.length cP, .slice aD wv.D.length cD], .slice a3 (coS xs ws wv).length c3] w (RetTap w (allT wv N M T C o NN)) := by
 have hgx := (tenB_iff.1 K.tx).1
 have hgw := (tenB_iff.1 K.tw).1
 have hlx := K.lx
 have hlw := K.lw
 have hr := K.hr
 have hr2 := K.hR.r
 have hct1 : 1 ≤ C * T := Nat.mul_pos K.c1 K.t1
 have hTF := fun (x y : Nat) hx hy => tap_facts K hL hK (a := x) (b := y) hx hy
 have hdO : Dims wv.O := goodB_dims K.gO
 have hdK : Dims wv.K := goodB_dims K.gK
 have hOl := wv.O_len
 have hKl := K.hR.k
 obtain ⟨b1, o1, rfl, _, _⟩ := h2.cell 0 (by omega)
 have hiD := ints_drop h2 1
 obtain ⟨KD, hKD⟩ : ∃ l, ws.drop 1 = l := ⟨_, rfl⟩
 have hkl : ws.length - 1 = KD.length := by rw [← hKD, List.length_drop]
 have hkp : 1 ≤ KD.length := by omega
 have hgd : goodB KD = true := by rw [← hKD]; exact good_drop hgw 1
 have hpd : prodI KD = ((C * T : Nat) : Int) := by
  have h9 := two_front (xs := ws) (by omega)
  rw [K.ho, K.hC2, ← hK] at h9
  rw [← hKD, h9]
  simp only [List.drop_succ_cons, List.drop_zero, prodI, K.hT]
  simp
 rw [hKD] at hiD hTF
 have hgs := K.gS
 have hps := K.hNN
 have hsl : (coS xs ws wv).length = 2 + wv.L.length := by unfold coS; simp; omega
 obtain ⟨S, hSe⟩ : ∃ s, coS xs ws wv = s := ⟨_, rfl⟩
 rw [hSe] at hTF hgs hps hsl h3 ⊢
 have hnnb : NN ≤ 65536 := by have h9 := (goodB_iff.1 hgs).2.2; omega
 have hctb : C * T ≤ 65536 := by have h9 := (goodB_iff.1 hgd).2.2; omega
 obtain ⟨CT, hCT⟩ : ∃ z, C * T = z := ⟨_, rfl⟩
 rw [hCT] at hpd hTF hct1 hctb
 have hcs := fun W (h : Ints .i64 W W.heap.size a3 S) => rcount_any a3 c3 W.heap.size S W h (goodB_dims hgs)
 rw [countE_good hgs, hps] at hcs
 have hck := fun W (h : Ints .i64 W W.heap.size (some ⟨b1, o1 + 1, none⟩) KD) => rcount_any (some ⟨b1, o1 + 1, none⟩) (c2 - 1) W.heap.size KD W h (goodB_dims hgd)
 rw [countE_good hgd, hpd] at hck
 have ha1 := fun (x : Nat) W (hx : x < NN) (h : Ints .i64 W W.heap.size a3 S) => rat_any a3 c3 S (x : Int) W h hgs (by omega) (by rw [hps]; omega)
 have ha2 := fun (y : Nat) W (hy : y < CT) (h : Ints .i64 W W.heap.size (some ⟨b1, o1 + 1, none⟩) KD) => rat_any (some ⟨b1, o1 + 1, none⟩) (c2 - 1) KD (y : Int) W h hgd (by omega) (by rw [hpd]; omega)
 have hst := fun (p t : Nat) aA aB cA cB W h0 h1 hb h2 h3 h4 => rstand_any a aA aB aQ aS aP aD c cA cB qn cQ cS cP cD xs (standsI wv.O (p : Int)) (standsI wv.K (t : Int)) wv W h0 h1 hb h2 h3 h4 hL K.hR (by omega) (by rw [standsI_length, hOl]) (by rw [standsI_length, hKl]) (fun i hi => by have h8 := getD_within (standsI_within wv.O (p : Int) hdO) (i := i) (by omega); have h9 := goodB_dims K.gO _ (getD_mem (l := wv.O) (i := i) (by omega)); omega) (fun i hi => by have h8 := getD_within (standsI_within wv.K (t : Int) hdK) (i := i) (by omega); have h9 := goodB_dims K.gK _ (getD_mem (l := wv.K) (i := i) (by omega)); omega)
 have hi1 := fun a9 c9 is W h h2 hw => rindex_any a a9 c c9 xs is W h h2 hgx hw
 have hi2 := fun a9 c9 is W h h2 hw => rindex_any (some ⟨b1, o1, none⟩) a9 c2 c9 ws is W h h2 hgw hw
 have hwS : ∀ n : Nat, ∀ x ∈ standsI S (n : Int), (Lit.int .i64 x).wf = true := fun n => wf_stands (goodB_dims hgs)
 have hwK : ∀ n : Nat, ∀ x ∈ standsI KD (n : Int), (Lit.int .i64 x).wf = true := fun n => wf_stands (goodB_dims hgd)
 have hwX : ∀ (p t : Nat), wv.stB (standsI wv.O (p : Int)) (standsI wv.K (t : Int)) = true → ∀ x ∈ wv.xs (standsI wv.O (p : Int)) (standsI wv.K (t : Int)), (Lit.int .i64 x).wf = true := fun p t ht x hx => by
  obtain ⟨i, hi, rfl⟩ := List.mem_map.1 hx
  have hi2 := List.mem_range.1 hi
  have h8 := WinV.st_iff.1 ht i hi2
  have h9 := K.hR.dl i hi2
  exact wf_i64_iff.2 ⟨by omega, by omega⟩
 have HTF := Lib.hid (hTF)
 have HCS := Lib.hid (hcs)
 have HCK := Lib.hid (hck)
 have HA1 := Lib.hid (ha1)
 have HA2 := Lib.hid (ha2)
 have HST := Lib.hid (hst)
 have HI1 := Lib.hid (hi1)
 have HI2 := Lib.hid (hi2)
 have HKL := Lib.hid (hkl)
 have HKP := Lib.hid (hkp)
 have HWS := Lib.hid (hwS)
 have HWK := Lib.hid (hwK)
 have HWX := Lib.hid (hwX)
 have HSL := Lib.hid (hsl)
 have HNB := Lib.hid (And.intro hnnb (And.intro hct1 hctb))
 have HCTe := Lib.hid (hCT)
 have HLN := Lib.hid (And.intro hlx (And.intro hlw (And.intro hr hr2)))
 have HOK := Lib.hid (And.intro hOl hKl)
 have HCC := Lib.hid (And.intro hc3 hc4)
 have F1 := Lib.hid (FrL.start (e := 63) (size := 3) ((Fr.start (w := w) (I := [(.i64, a, xs), (.i64, (some ⟨b1, o1, none⟩), ws), (.i64, a3, S), (.i64, aS, wv.S), (.i64, aP, wv.P), (.i64, aD, wv.D), (.i64, (some ⟨b1, o1 + 1, none⟩), KD)]) (by intro z hz; simp at hz; rcases hz with rfl | rfl | rfl | rfl | rfl | rfl | rfl; exact h; exact h2; exact h3; exact hS; exact hP; exact hD; exact hiD)).box1 (b := w.heap.size) rfl [.slice aQ qn cQ, .slice aS wv.S.length cS, .slice aP wv.P.length cP, .slice aD wv.D.length cD] 28))
 simp only [List.nil_append, List.cons_append] at F1
 clear hTF hcs hck ha1 ha2 hst hi1 hi2 hkl hkp hwS hwK hwX hsl hnnb hct1 hctb hCT hlx hlw hr hr2 hOl hKl hc3 hc4 h h2 h3 hS hP hD hiD hKD hgd hpd hgs hps hSe hgx hgw hdO hdK hL hK K
 go_enter Tryz.func23, Tryz.ntmps23
 go_upto_region 1 with fail
 obtain ⟨W1, hW1⟩ : ∃ W1, w.alloc (.cells #[.slice aQ qn cQ, .slice aS wv.S.length cS, .slice aP wv.P.length cP, .slice aD wv.D.length cD] 28) = W1 := ⟨_, rfl⟩
 rw [hW1] at F1 ⊢
 clear hW1
 go_wp2
 go_loopw [9, 10] (fun s9 s10 wr => ∃ (x : Nat) (v : Value), x ≤ NN ∧ s9 = v ∧ s10 = .int .i64 x ∧ Hid (FrL w.heap.size w wr [(w.heap.size, [.slice aQ qn cQ, .slice aS wv.S.length cS, .slice aP wv.P.length cP, .slice aD wv.D.length cD])] [(.i64, a, xs), (.i64, (some ⟨b1, o1, none⟩), ws), (.i64, a3, S), (.i64, aS, wv.S), (.i64, aP, wv.P), (.i64, aD, wv.D), (.i64, (some ⟨b1, o1 + 1, none⟩), KD)] [] 63 3 v (allT wv N M T C o x).length (cellsT (allT wv N M T C o x)))) (fun _ s10 _ => NN - (intOf s10).toNat)
 case atStart => exact ⟨0, .slice none 0 0, Nat.zero_le _, rfl, rfl, F1⟩
 case round =>
  obtain ⟨x, v, hx, hs9, rfl, F2⟩ := hrel
  have hs9 := hs9.symm
  subst hs9
  clear F1
  obtain ⟨wo, rfl⟩ : ∃ z : World, z = wr := ⟨_, rfl⟩
  by_cases hlx : x < NN
  ·skip
   have hxi : (x : Int) < (NN : Int) := by omega
   go_upto_region 6 with (first | (go_at_call 19; refine (HCS.out _ (F2.out.fr.lw 2 rfl)).mono ?_; rintro e w' ⟨rfl, rfl⟩) | (go_at_call 52; refine (HA1.out x _ hlx (F2.out.fr.lw 2 rfl)).mono ?_; rintro e w5 ⟨v5, rfl, hown, hb⟩; obtain ⟨ap, cp, rfl, _⟩ := own_shape hown; have F3 := Lib.hid (F2.out.addO hb hown); simp only [List.nil_append] at F3; clear hown hb F2) | fail)
   clear hxi
   obtain ⟨PLC, hPLC⟩ : ∃ l, standsI S (x : Int) = l := ⟨_, rfl⟩
   have hwp := HWS.out x
   rw [hPLC] at F3 hwp ⊢
   have hpl : PLC.length = S.length := by rw [← hPLC, standsI_length]
   obtain ⟨ap', cp', he, hsh⟩ := own_shape (F3.out.fr.r 0 rfl)
   simp only [Value.slice.injEq] at he
   obtain ⟨rfl, _, rfl⟩ := he
   obtain ⟨gp, rfl, _⟩ := hsh.resolve_left (show ¬ PLC.length = 0 by have := HSL.out; omega)
   clear hsh
   have hcp := row_capT (F3.out.fr.r 0 rfl)
   have HPL := Lib.hid hpl
   have HPLC := Lib.hid hPLC
   have HWP := Lib.hid hwp
   have HCP := Lib.hid hcp
   clear hpl hPLC hwp hcp
   obtain ⟨AX, hAX⟩ : ∃ l, allT wv N M T C o x = l := ⟨_, rfl⟩
   have hax := allT_le wv N M T C o x
   rw [hAX] at F3 hax
   have HAX := Lib.hid hAX
   have HAXL := Lib.hid hax
   clear hAX hax
   go_wp2
   go_loopw [9, 12] (fun s9 s12 wr => ∃ (y : Nat) (v : Value), y ≤ CT ∧ s9 = v ∧ s12 = .int .i64 y ∧ Hid (FrL w.heap.size w wr [(w.heap.size, [.slice aQ qn cQ, .slice aS wv.S.length cS, .slice aP wv.P.length cP, .slice aD wv.D.length cD])] [(.i64, a, xs), (.i64, (some ⟨b1, o1, none⟩), ws), (.i64, a3, S), (.i64, aS, wv.S), (.i64, aP, wv.P), (.i64, aD, wv.D), (.i64, (some ⟨b1, o1 + 1, none⟩), KD)] [⟨3, .slice (some ⟨gp, 0, none⟩) PLC.length cp, PLC.length, PLC.map (Value.int .i64)⟩] 63 3 v (AX ++ rowT wv N M T C o x y).length (cellsT (AX ++ rowT wv N M T C o x y)))) (fun _ s12 _ => CT - (intOf s12).toNat)
   case atStart => exact ⟨0, v, Nat.zero_le _, rfl, rfl, by have h9 := F3.out; rw [show AX ++ rowT wv N M T C o x 0 = AX from List.append_nil _]; exact Lib.hid h9⟩
   case round =>
    obtain ⟨y, v, hy, hs9, rfl, F4⟩ := hrel
    have hs9 := hs9.symm
    subst hs9
    clear F3
    obtain ⟨wi, rfl⟩ : ∃ z : World, z = wr := ⟨_, rfl⟩
    have hkl := HKL.out
    have hln := HLN.out
    have hcc := HCC.out
    have g1 : (1 : Int) ≤ (ws.length : Int) := by omega
    have g2 : (ws.length : Int) ≤ (c2 : Int) := by omega
    have g3 : ¬ c2 = 1 := by omega
    clear hln hcc
    by_cases hly : y < CT
    ·skip
     have hyi : (y : Int) < (CT : Int) := by omega
     go_upto_region 10 with (first | (go_at_call 19; refine (HCK.out _ (F4.out.fr.lw 6 rfl)).mono ?_; rintro e w' ⟨rfl, rfl⟩) | (go_at_call 52; refine (HA2.out y _ hly (F4.out.fr.lw 6 rfl)).mono ?_; rintro e w5 ⟨v5, rfl, hown, hb⟩; obtain ⟨at_, ct, rfl, _⟩ := own_shape hown; have F5 := Lib.hid (F4.out.addO hb hown); simp only [List.cons_append, List.nil_append] at F5; clear hown hb F4) | fail)
     clear hyi
     obtain ⟨TPL, hTPL⟩ : ∃ l, standsI KD (y : Int) = l := ⟨_, rfl⟩
     have hwt := HWK.out y
     rw [hTPL] at F5 hwt ⊢
     have htl : TPL.length = KD.length := by rw [← hTPL, standsI_length]
     obtain ⟨at', ct', he, hsh⟩ := own_shape (F5.out.fr.r 1 rfl)
     simp only [Value.slice.injEq] at he
     obtain ⟨rfl, _, rfl⟩ := he
     obtain ⟨gt, rfl, _⟩ := hsh.resolve_left (show ¬ TPL.length = 0 from fun h0 => absurd HKP.out (by rw [← htl, h0]; decide))
     clear hsh
     have hctp := row_capT (F5.out.fr.r 1 rfl)
     obtain ⟨f1, f2, f3, f4, f5, f6⟩ := HTF.out x y hlx hly
     rw [HPLC.out] at f1
     rw [hTPL] at f2
     obtain ⟨ONE, hONE⟩ : ∃ z : Nat, x / N / o = z := ⟨_, rfl⟩
     obtain ⟨OUTN, hOUT⟩ : ∃ z : Nat, x / N % o = z := ⟨_, rfl⟩
     obtain ⟨KK_, hKK⟩ : ∃ z : Nat, y / T = z := ⟨_, rfl⟩
     obtain ⟨PN, hPN⟩ : ∃ z : Nat, x % N = z := ⟨_, rfl⟩
     obtain ⟨TN, hTN⟩ : ∃ z : Nat, y % T = z := ⟨_, rfl⟩
     have hst := HST.out PN TN
     have hwx := HWX.out PN TN
     have htb : tapB wv N T x y = wv.stB (standsI wv.O (PN : Int)) (standsI wv.K (TN : Int)) := by unfold tapB WinV.wB; rw [hPN, hTN]
     rw [hONE, hOUT, hPN] at f1
     rw [hKK, hTN] at f2
     rw [hOUT, hKK, hTN] at f3 f6
     rw [hONE, hKK, hPN, hTN] at f5
     obtain ⟨PO, hPO⟩ : ∃ l, standsI wv.O (PN : Int) = l := ⟨_, rfl⟩
     obtain ⟨TO, hTO⟩ : ∃ l, standsI wv.K (TN : Int) = l := ⟨_, rfl⟩
     have hpol : PO.length = wv.L.length := by rw [← hPO, standsI_length, HOK.out.1]
     have htol : TO.length = wv.L.length := by rw [← hTO, standsI_length, HOK.out.2]
     rw [hPO, hTO] at hst hwx htb
     rw [hPO] at f1 f5
     rw [hTO] at f2 f3 f5 f6
     have hp1 : 2 ≤ PLC.length ∧ PLC.length - 2 = PO.length := by rw [f1]; simp
     have ht1 : 1 ≤ TPL.length ∧ TPL.length - 1 = TO.length := by rw [f2]; simp
     have HIP := Lib.hid (fun W (h : Ints .i64 W W.heap.size (some ⟨gp, 0, none⟩) PLC) => (by have h9 := ints_drop h 2; rw [f1] at h9; exact h9 : Ints .i64 W W.heap.size (some ⟨gp, 2, none⟩) PO))
     have HIT := Lib.hid (fun W (h : Ints .i64 W W.heap.size (some ⟨gt, 0, none⟩) TPL) => (by have h9 := ints_drop h 1; rw [f2] at h9; exact h9 : Ints .i64 W W.heap.size (some ⟨gt, 1, none⟩) TO))
     have HP0 := Lib.hid (show (PLC.map (Value.int .i64))[0]? = some (.int .i64 (ONE : Int)) by rw [f1]; rfl)
     have HP1 := Lib.hid (show (PLC.map (Value.int .i64))[1]? = some (.int .i64 (OUTN : Int)) by rw [f1]; rfl)
     have HT0 := Lib.hid (show (TPL.map (Value.int .i64))[0]? = some (.int .i64 (KK_ : Int)) by rw [f2]; rfl)
     have HF2 := Lib.hid f2
     have HF3 := Lib.hid f3
     have HF5 := Lib.hid f5
     have HF6 := Lib.hid f6
     have HP12 := Lib.hid hp1
     have HT12 := Lib.hid ht1
     have HWT := Lib.hid hwt
     have HCTP := Lib.hid hctp
     have HPOL := Lib.hid (And.intro hpol htol)
     have HWXT := Lib.hid hwx
     clear f1 f2 f3 f4 f5 f6 hwt htl hctp hONE hOUT hKK hPN hTN hwx hPO hTO hpol htol hp1 ht1 hTPL
     obtain ⟨BT, hBT⟩ : ∃ z, wv.stB PO TO = z := ⟨_, rfl⟩
     rw [hBT] at hst htb
     have HST2 := Lib.hid hst
     have HTB := Lib.hid htb
     have HBT := Lib.hid hBT
     clear hst htb hBT
     obtain ⟨wj, rfl⟩ : ∃ z : World, z = w5 := ⟨_, rfl⟩
     refine wp_region_parts2 (w := wj) 12 0 none [] [(fun u _ => u = .slice a xs.length c), (fun u _ => u = .slice (some ⟨gp, 0, none⟩) PLC.length cp), (fun u _ => u = .slice (some ⟨gp, 2, none⟩) PO.length (cp - 2)), (fun u _ => u = .slice (some ⟨gt, 0, none⟩) TPL.length ct), (fun u _ => u = .slice (some ⟨gt, 1, none⟩) TO.length (ct - 1)), (fun u _ => u = .agg #[.slice aQ qn cQ, .slice aS wv.S.length cS, .slice aP wv.P.length cP, .slice aD wv.D.length cD]), ((HasRow wj.heap.size (stX wv PO TO).length ((stX wv PO TO).map (Value.int .i64)) (fun aO cO => .tuple #[.slice aO (stX wv PO TO).length cO, .bool BT]))), ((HasRow wj.heap.size (stX wv PO TO).length ((stX wv PO TO).map (Value.int .i64)) (fun aO cO => .tuple #[.slice aO (stX wv PO TO).length cO, .bool BT]))), ((HasRow wj.heap.size (stX wv PO TO).length ((stX wv PO TO).map (Value.int .i64)) (fun aO cO => .slice aO (stX wv PO TO).length cO))), (fun u _ => u = .bool BT), ((HasRow wj.heap.size (stX wv PO TO).length ((stX wv PO TO).map (Value.int .i64)) (fun aO cO => .slice aO (stX wv PO TO).length cO))), (fun u _ => u = .bool BT)] [some 38, some 39, some 40, some 41, some 42, some 43, some 44, some 37, some 45, some 46, some 14, some 15] #[true, true, true, true, true, true, true, true, true, true, true, true] #[true, true, true, true, true, true, true, true, true, true, true, true] (by kernel_rfl) rfl (by kernel_rfl) (by kernel_rfl) rfl (by kernel_rfl) (by kernel_rfl) (.cons (carries_eq _) (.cons (carries_eq _) (.cons (carries_eq _) (.cons (carries_eq _) (.cons (carries_eq _) (.cons (carries_eq _) (.cons (hasRow_carries _ _ _ _) (.cons (hasRow_carries _ _ _ _) (.cons (hasRow_carries _ _ _ _) (.cons (carries_eq _) (.cons (hasRow_carries _ _ _ _) (.cons (carries_eq _) .nil)))))))))))) (fun vs b hvl hvb => ?_)
     obtain ⟨x0, x1, x2, x3, x4, x5, x6, x7, x8, x9, x10, x11, rfl⟩ : ∃ x0 x1 x2 x3 x4 x5 x6 x7 x8 x9 x10 x11, vs = [x0, x1, x2, x3, x4, x5, x6, x7, x8, x9, x10, x11] := lw12 hvl
     clear hvl
     simp only [putAll, Act.put, List.setIfInBounds_toArray, List.set_cons_zero, List.set_cons_succ] at hvb
     subst hvb
     refine ⟨(.snoc (.snoc (.snoc (.snoc (.snoc (.snoc (.snoc (.snoc (.snoc (.snoc (.snoc (.snoc .zero (PartOb.intro (d := (some 38)) (r := fun u _ => u = .slice a xs.length c) rfl rfl rfl rfl ?po10x0)) (PartOb.intro (d := (some 39)) (r := fun u _ => u = .slice (some ⟨gp, 0, none⟩) PLC.length cp) rfl rfl rfl rfl ?po10x1)) (PartOb.intro (d := (some 40)) (r := fun u _ => u = .slice (some ⟨gp, 2, none⟩) PO.length (cp - 2)) rfl rfl rfl rfl ?po10x2)) (PartOb.intro (d := (some 41)) (r := fun u _ => u = .slice (some ⟨gt, 0, none⟩) TPL.length ct) rfl rfl rfl rfl ?po10x3)) (PartOb.intro (d := (some 42)) (r := fun u _ => u = .slice (some ⟨gt, 1, none⟩) TO.length (ct - 1)) rfl rfl rfl rfl ?po10x4)) (PartOb.intro (d := (some 43)) (r := fun u _ => u = .agg #[.slice aQ qn cQ, .slice aS wv.S.length cS, .slice aP wv.P.length cP, .slice aD wv.D.length cD]) rfl rfl rfl rfl ?po10x5)) (PartOb.intro (d := (some 44)) (r := (HasRow wj.heap.size (stX wv PO TO).length ((stX wv PO TO).map (Value.int .i64)) (fun aO cO => .tuple #[.slice aO (stX wv PO TO).length cO, .bool BT]))) rfl rfl rfl rfl ?po10x6)) (PartOb.intro (d := (some 37)) (r := (HasRow wj.heap.size (stX wv PO TO).length ((stX wv PO TO).map (Value.int .i64)) (fun aO cO => .tuple #[.slice aO (stX wv PO TO).length cO, .bool BT]))) rfl rfl rfl rfl ?po10x7)) (PartOb.intro (d := (some 45)) (r := (HasRow wj.heap.size (stX wv PO TO).length ((stX wv PO TO).map (Value.int .i64)) (fun aO cO => .slice aO (stX wv PO TO).length cO))) rfl rfl rfl rfl ?po10x8)) (PartOb.intro (d := (some 46)) (r := fun u _ => u = .bool BT) rfl rfl rfl rfl ?po10x9)) (PartOb.intro (d := (some 14)) (r := (HasRow wj.heap.size (stX wv PO TO).length ((stX wv PO TO).map (Value.int .i64)) (fun aO cO => .slice aO (stX wv PO TO).length cO))) rfl rfl rfl rfl ?po10x10)) (PartOb.intro (d := (some 15)) (r := fun u _ => u = .bool BT) rfl rfl rfl rfl ?po10x11)), ?pend10, ?pfl10⟩
     case po10x0 | po10x1 | po10x3 =>
      intro w1 hb1 hd KK hK
      go_simp
      exact hK.out _ _ (Below.refl _ _) rfl
     case po10x2 =>
      intro w1 hb1 hd KK hK
      obtain rfl := hd 1 (by kernel_rfl)
      obtain ⟨hxx, hxy⟩ := HP12.out
      have hzz := HCP.out
      have g1 : (2 : Int) ≤ (PLC.length : Int) := by omega
      have g2 : (PLC.length : Int) ≤ (cp : Int) := by omega
      have g3 : ¬ cp = 2 := by have := HPOL.out; have := HLN.out; omega
      go_simp
      exact hK.out _ _ (Below.refl _ _) rfl
     case po10x4 =>
      intro w1 hb1 hd KK hK
      obtain rfl := hd 3 (by kernel_rfl)
      obtain ⟨hxx, hxy⟩ := HT12.out
      have hzz := HCTP.out
      have g1 : (1 : Int) ≤ (TPL.length : Int) := by omega
      have g2 : (TPL.length : Int) ≤ (ct : Int) := by omega
      have g3 : ¬ ct = 1 := by have := HPOL.out; have := HLN.out; omega
      go_simp
      exact hK.out _ _ (Below.refl _ _) rfl
     case po10x5 =>
      intro w1 hb1 hd KK hK
      have hF := (F5.out.next hb1).fr
      have k0 := hF.c 0 0 rfl rfl
      have k1 := hF.c 0 1 rfl rfl
      have k2 := hF.c 0 2 rfl rfl
      have k3 := hF.c 0 3 rfl rfl
      go_simp
      exact hK.out _ _ (Below.refl _ _) rfl
     case po10x6 =>
      intro w1 hb1 hd KK hK
      obtain rfl := hd 0 (by kernel_rfl)
      obtain rfl := hd 2 (by kernel_rfl)
      obtain rfl := hd 4 (by kernel_rfl)
      obtain rfl := hd 5 (by kernel_rfl)
      go_simp
      have hF := (F5.out.next hb1).fr
      go_at_call 53
      refine (HST2.out _ _ _ _ w1 (hF.lw 0 rfl) (HIP.out _ (hF.li 0 (k := .i64) (xs := PLC) rfl HWP.out)) (HIT.out _ (hF.li 1 (k := .i64) (xs := TPL) rfl HWT.out)) (hF.lw 3 rfl) (hF.lw 4 rfl) (hF.lw 5 rfl)).mono ?_
      rintro e w6 ⟨aO, cO, rfl, hf⟩
      (try go_wp2_with fail)
      exact hK.out _ _ hf.bel ⟨aO, cO, rfl, own_mono (hf.r 0 rfl) hb1.size⟩
     case po10x7 =>
      intro w1 hb1 hd KK hK
      obtain ⟨a6_, c6_, rfl, hO6⟩ := hd 6 (by kernel_rfl)
      go_simp
      exact hK.out _ _ (Below.refl _ _) ⟨_, _, rfl, hO6⟩
     case po10x8 =>
      intro w1 hb1 hd KK hK
      obtain ⟨a7_, c7_, rfl, hO7⟩ := hd 7 (by kernel_rfl)
      go_simp
      exact hK.out _ _ (Below.refl _ _) ⟨_, _, rfl, hO7⟩
     case po10x9 =>
      intro w1 hb1 hd KK hK
      obtain ⟨a7_, c7_, rfl, hO7⟩ := hd 7 (by kernel_rfl)
      go_simp
      exact hK.out _ _ (Below.refl _ _) rfl
     case po10x10 =>
      intro w1 hb1 hd KK hK
      obtain rfl := hd 0 (by kernel_rfl)
      obtain rfl := hd 1 (by kernel_rfl)
      obtain rfl := hd 2 (by kernel_rfl)
      obtain rfl := hd 3 (by kernel_rfl)
      obtain rfl := hd 4 (by kernel_rfl)
      obtain rfl := hd 5 (by kernel_rfl)
      obtain ⟨a6_, c6_, rfl, hO6⟩ := hd 6 (by kernel_rfl)
      obtain ⟨a7_, c7_, rfl, hO7⟩ := hd 7 (by kernel_rfl)
      obtain ⟨a8_, c8_, rfl, hO8⟩ := hd 8 (by kernel_rfl)
      go_simp
      exact hK.out _ _ (Below.refl _ _) ⟨_, _, rfl, hO8⟩
     case po10x11 =>
      intro w1 hb1 hd KK hK
      obtain rfl := hd 0 (by kernel_rfl)
      obtain rfl := hd 1 (by kernel_rfl)
      obtain rfl := hd 2 (by kernel_rfl)
      obtain rfl := hd 3 (by kernel_rfl)
      obtain rfl := hd 4 (by kernel_rfl)
      obtain rfl := hd 5 (by kernel_rfl)
      obtain ⟨a6_, c6_, rfl, hO6⟩ := hd 6 (by kernel_rfl)
      obtain ⟨a7_, c7_, rfl, hO7⟩ := hd 7 (by kernel_rfl)
      obtain ⟨a8_, c8_, rfl, hO8⟩ := hd 8 (by kernel_rfl)
      obtain rfl := hd 9 (by kernel_rfl)
      obtain ⟨a10_, c10_, rfl, hO10⟩ := hd 10 (by kernel_rfl)
      go_simp
      exact hK.out _ _ (Below.refl _ _) rfl
     case pfl10 => (intro f hf; cases hf)
     case pend10 =>
     intro w1 hb1 hR hD
     obtain rfl := hR 0 (by decide)
     obtain rfl := hR 1 (by decide)
     obtain rfl := hR 2 (by decide)
     obtain rfl := hR 3 (by decide)
     obtain rfl := hR 4 (by decide)
     obtain rfl := hR 5 (by decide)
     obtain ⟨a6_, c6_, rfl, hO6⟩ := hR 6 (by decide)
     obtain ⟨a7_, c7_, rfl, hO7⟩ := hR 7 (by decide)
     obtain ⟨a8_, c8_, rfl, hO8⟩ := hR 8 (by decide)
     obtain rfl := hR 9 (by decide)
     obtain ⟨a10_, c10_, rfl, hO10⟩ := hR 10 (by decide)
     obtain rfl := hR 11 (by decide)
     clear hR hD
     refine wpAny_done (by kernel_rfl) ?_ _
     have F6 := Lib.hid (F5.out.addO hb1 hO10)
     simp only [List.cons_append, List.nil_append] at F6
     clear hb1 hO6 hO7 hO8 hO10 F5 HST2
     obtain ⟨w6, rfl⟩ : ∃ z : World, z = w1 := ⟨_, rfl⟩
     cases BT with
     | false =>
      have hrt : AX ++ rowT wv N M T C o x (y + 1) = AX ++ rowT wv N M T C o x y := by rw [rowT, if_neg (by rw [HTB.out]; decide), List.append_nil]
      have F7 := Lib.hid (F6.out.less (.refl _) (.refl _) (O' := [⟨3, .slice (some ⟨gp, 0, none⟩) PLC.length cp, PLC.length, PLC.map (Value.int .i64)⟩]) (.cons_cons _ (List.nil_sublist _)))
      rw [← hrt] at F7
      clear F6
      have hnb := HNB.out
      go_wp2
      go_roundw
      case rel => exact ⟨y + 1, v, hly, rfl, congrArg (Value.int .i64) (by omega), F7⟩
      case measure => simp only [intOf]; omega
     | true =>
      have hsx := stX_true HBT.out
      rw [hsx] at F6
      simp only [hsx]
      have hrt : AX ++ rowT wv N M T C o x (y + 1) = (AX ++ rowT wv N M T C o x y) ++ [(tapX wv N M T C o x y, tapK N T C o x y, x)] := by rw [rowT, if_pos HTB.out, List.append_assoc]
      have HRT := Lib.hid hrt
      obtain ⟨e1, e2, e3⟩ := HF5.out HTB.out
      have hwa := HWXT.out HBT.out
      obtain ⟨AL, hAL⟩ : ∃ l, wv.xs PO TO = l := ⟨_, rfl⟩
      have hall : AL.length = wv.L.length := by rw [← hAL, wv.xs_len]
      rw [hAL] at e1 e3 hwa F6 ⊢
      obtain ⟨aq', cq', he, hsh⟩ := own_shape (F6.out.fr.r 2 rfl)
      simp only [Value.slice.injEq] at he
      obtain ⟨rfl, _, rfl⟩ := he
      obtain ⟨gq, rfl, _⟩ := hsh.resolve_left (show ¬ AL.length = 0 by have := HLN.out; omega)
      clear hsh
      obtain ⟨TX, hTX⟩ : ∃ z, tapX wv N M T C o x y = z := ⟨_, rfl⟩
      obtain ⟨TK, hTK⟩ : ∃ z, tapK N T C o x y = z := ⟨_, rfl⟩
      have hf3 := HF3.out
      rw [hTX] at e1 e2 hrt
      rw [hTK] at hf3 hrt
      have HRT2 := Lib.hid hrt
      have HE1 := Lib.hid e1
      have HE3 := Lib.hid e3
      have HF32 := Lib.hid hf3
      have HALL := Lib.hid hall
      have HWA := Lib.hid hwa
      clear hrt e1 e2 e3 hf3 hall hwa hsx hAL hTX hTK HRT
      go_upto_region 12 with fail
      refine wp_region_parts2 (w := w6) 8 2 none [] [(fun u _ => u = .slice (some ⟨gp, 0, none⟩) PLC.length cp), (fun u _ => u = .pointer (some ⟨gp, 0, none⟩)), (fun u _ => u = .int .i64 (ONE : Int)), (fun u _ => u = .slice (some ⟨gt, 0, none⟩) TPL.length ct), (fun u _ => u = .pointer (some ⟨gt, 0, none⟩)), (fun u _ => u = .int .i64 (KK_ : Int)), ((IsRow w6.heap.size 3 2 ([(ONE : Int), (KK_ : Int)].map (Value.int .i64)))), (fun u _ => u = .slice (some ⟨gq, 0, none⟩) AL.length c10_)] [some 48, some 49, some 50, some 51, some 52, some 53, some 54, some 55, some 56, some 16] #[true, true, true, true, true, true, true, true, false, false] #[true, true, true, true, true, true, true, true, false, false] (by kernel_rfl) rfl (by kernel_rfl) (by kernel_rfl) rfl (by kernel_rfl) (by kernel_rfl) (.cons (carries_eq _) (.cons (carries_eq _) (.cons (carries_eq _) (.cons (carries_eq _) (.cons (carries_eq _) (.cons (carries_eq _) (.cons (isRow_carries _ _ _ _) (.cons (carries_eq _) .nil)))))))) (fun vs b hvl hvb => ?_)
      obtain ⟨x0, x1, x2, x3, x4, x5, x6, x7, x8, x9, rfl⟩ : ∃ x0 x1 x2 x3 x4 x5 x6 x7 x8 x9, vs = [x0, x1, x2, x3, x4, x5, x6, x7, x8, x9] := lw10 hvl
      clear hvl
      simp only [putAll, Act.put, List.setIfInBounds_toArray, List.set_cons_zero, List.set_cons_succ] at hvb
      subst hvb
      refine ⟨(.snoc (.snoc (.snoc (.snoc (.snoc (.snoc (.snoc (.snoc .zero (PartOb.intro (d := (some 48)) (r := fun u _ => u = .slice (some ⟨gp, 0, none⟩) PLC.length cp) rfl rfl rfl rfl ?po12x0)) (PartOb.intro (d := (some 49)) (r := fun u _ => u = .pointer (some ⟨gp, 0, none⟩)) rfl rfl rfl rfl ?po12x1)) (PartOb.intro (d := (some 50)) (r := fun u _ => u = .int .i64 (ONE : Int)) rfl rfl rfl rfl ?po12x2)) (PartOb.intro (d := (some 51)) (r := fun u _ => u = .slice (some ⟨gt, 0, none⟩) TPL.length ct) rfl rfl rfl rfl ?po12x3)) (PartOb.intro (d := (some 52)) (r := fun u _ => u = .pointer (some ⟨gt, 0, none⟩)) rfl rfl rfl rfl ?po12x4)) (PartOb.intro (d := (some 53)) (r := fun u _ => u = .int .i64 (KK_ : Int)) rfl rfl rfl rfl ?po12x5)) (PartOb.intro (d := (some 54)) (r := (IsRow w6.heap.size 3 2 ([(ONE : Int), (KK_ : Int)].map (Value.int .i64)))) rfl rfl rfl rfl ?po12x6)) (PartOb.intro (d := (some 55)) (r := fun u _ => u = .slice (some ⟨gq, 0, none⟩) AL.length c10_) rfl rfl rfl rfl ?po12x7)), ?pend12, ?pfl12⟩
      case po12x0 | po12x3 | po12x7 =>
       intro w1 hb1 hd KK hK
       go_simp
       exact hK.out _ _ (Below.refl _ _) rfl
      case po12x1 =>
       intro w1 hb1 hd KK hK
       obtain rfl := hd 0 (by kernel_rfl)
       obtain ⟨hxx, hxy⟩ := HP12.out
       have g1 : (0 : Int) < (PLC.length : Int) := by omega
       have g2 : ¬ PLC = [] := by intro hh; rw [hh] at hxx; exact absurd hxx (by simp)
       have g3 : 0 < PLC.length := by omega
       go_simp
       exact hK.out _ _ (Below.refl _ _) rfl
      case po12x2 =>
       intro w1 hb1 hd KK hK
       obtain rfl := hd 1 (by kernel_rfl)
       have hF := (F6.out.next hb1).fr
       obtain ⟨k0, kf⟩ := hF.rc 0 0 rfl HP0.out
       go_simp
       exact hK.out _ _ (Below.refl _ _) rfl
      case po12x4 =>
       intro w1 hb1 hd KK hK
       obtain rfl := hd 3 (by kernel_rfl)
       obtain ⟨hxx, hxy⟩ := HT12.out
       have g1 : (0 : Int) < (TPL.length : Int) := by omega
       have g2 : ¬ TPL = [] := by intro hh; rw [hh] at hxx; exact absurd hxx (by simp)
       have g3 : 0 < TPL.length := by omega
       go_simp
       exact hK.out _ _ (Below.refl _ _) rfl
      case po12x5 =>
       intro w1 hb1 hd KK hK
       obtain rfl := hd 4 (by kernel_rfl)
       have hF := (F6.out.next hb1).fr
       obtain ⟨k0, kf⟩ := hF.rc 1 0 rfl HT0.out
       go_simp
       exact hK.out _ _ (Below.refl _ _) rfl
      case po12x6 =>
       intro w1 hb1 hd KK hK
       obtain rfl := hd 2 (by kernel_rfl)
       obtain rfl := hd 5 (by kernel_rfl)
       go_simp
       exact hK.out _ _ ((Below.refl _ _).alloc (Nat.le_refl _) _) ⟨_, _, rfl, World.ownsRow_lit (base := w6.heap.size) (size := 1) (e := 3) w1 #[.int .i64 (ONE : Int), .int .i64 (KK_ : Int)] 2 hb1.size (by decide) rfl⟩
      case pfl12 => (intro f hf; cases hf)
      case pend12 =>
      intro w1 hb1 hR hD
      obtain rfl := hR 0 (by decide)
      obtain rfl := hR 1 (by decide)
      obtain rfl := hR 2 (by decide)
      obtain rfl := hR 3 (by decide)
      obtain rfl := hR 4 (by decide)
      obtain rfl := hR 5 (by decide)
      obtain ⟨a6_, c6_, rfl, hO6⟩ := hR 6 (by decide)
      obtain rfl := hR 7 (by decide)
      clear hR hD
      refine wpAny_ready (rs := [8]) (by kernel_rfl) (by simp) (AllReady.cons rfl (fun KK hK => ?_) AllReady.nil)
      have hF := (F6.out.next hb1).fr
      refine stepAppN 23 3 infoInt Tryz.underlying23 w6.heap.size (.slice a6_ 2 c6_) 2 [(ONE : Int), (KK_ : Int)] AL AL.length c10_ ⟨gq, 0, none⟩ _ _ rfl rfl rfl hO6 rfl rfl (by have := HALL.out; have := HLN.out; omega) (fun j hj => ?_) (by omega) (by have := HALL.out; have := HLN.out; omega) hb1.size ?_
      ·have hc := (hF.li 2 (k := .i64) (xs := AL) rfl HWA.out).cell j hj
       obtain ⟨b9, o9, he, _, hcx⟩ := hc
       cases he
       rw [List.getElem?_eq_getElem hj] at hcx
       have ha : (⟨gq, 0, none⟩ : Addr).add j = ⟨gq, 0 + j, none⟩ := by cases j with
        | zero => rfl
        | succ j => simp [Addr.add]
       rw [ha]
       exact hcx
      intro g9 c9 w9 hown hgr hob
      have hb9 := hb1.grown hgr hb1.size (fun g hg => (hO6.lt g hg).1)
      refine hK _ _ ?_
      clear hK KK
      refine wpAny_ready (rs := [9]) (by kernel_rfl) (by simp) (AllReady.cons rfl (fun KK hK => ?_) AllReady.nil)
      have F9 := Lib.hid (F6.out.addO hb9 hown)
      simp only [List.cons_append, List.nil_append] at F9
      go_simp
      refine hK _ _ ?_
      clear hK KK
      refine wpAny_done (by kernel_rfl) ?_ _
      clear hb9 hown hgr hob hO6 hb1 F6
      obtain ⟨w10, rfl⟩ : ∃ z : World, z = w9 := ⟨_, rfl⟩
      obtain ⟨XI, hXI⟩ : ∃ l, (ONE : Int) :: (KK_ : Int) :: AL = l := ⟨_, rfl⟩
      have he1 := HE1.out
      have he3 := HE3.out
      rw [hXI] at F9 he1 he3
      have hxl : 2 + AL.length = XI.length := by rw [← hXI]; simp; omega
      rw [hxl] at F9 ⊢
      have hwi : ∀ z ∈ XI, (Lit.int .i64 z).wf = true := fun z hz => by
       rw [← hXI] at hz
       have hp := HNB.out
       rcases List.mem_cons.1 hz with rfl | hz
       ·have h8 := HWP.out (ONE : Int) (by have h9 := List.mem_of_getElem? HP0.out; obtain ⟨q, hq, hq2⟩ := List.mem_map.1 h9; injection hq2 with hq2 hq3; rw [← hq3]; exact hq)
        exact h8
       ·rcases List.mem_cons.1 hz with rfl | hz
        ·have h8 := HWT.out (KK_ : Int) (by have h9 := List.mem_of_getElem? HT0.out; obtain ⟨q, hq, hq2⟩ := List.mem_map.1 h9; injection hq2 with hq2 hq3; rw [← hq3]; exact hq)
         exact h8
        ·exact HWA.out z hz
      have hki : ∀ W a9 c9, Ints .i64 W W.heap.size (some ⟨b1, o1, none⟩) ws → Ints .i64 W W.heap.size a9 ((OUTN : Int) :: TPL) → Calls Tryz.prog 54 #[.slice (some ⟨b1, o1, none⟩) ws.length c2, .slice a9 ((OUTN : Int) :: TPL).length c9] W fun e w' => e = .returned (.int .i64 (TK : Int)) ∧ Below W.heap.size W w' := fun W a9 c9 q1 q2 => by
       have h9 := HI2.out a9 c9 ((OUTN : Int) :: TPL) W q1 q2 (by rw [HF2.out]; exact HF6.out)
       rw [show placeI ws ((OUTN : Int) :: TPL) = (TK : Int) by rw [HF2.out]; exact HF32.out] at h9
       exact h9
      have hxi1 : ∀ W a9 c9, Ints .i64 W W.heap.size a xs → Ints .i64 W W.heap.size a9 XI → Calls Tryz.prog 54 #[.slice a xs.length c, .slice a9 XI.length c9] W fun e w' => e = .returned (.int .i64 (TX : Int)) ∧ Below W.heap.size W w' := fun W a9 c9 q1 q2 => by
       have h9 := HI1.out a9 c9 XI W q1 q2 he3
       rw [he1] at h9
       exact h9
      have HKI := Lib.hid hki
      have HXI1 := Lib.hid hxi1
      have HWI := Lib.hid hwi
      have HXL := Lib.hid hxl
      clear hki hxi1 hwi hxl he1 he3 hXI
      obtain ⟨LL, hLL⟩ : ∃ l, AX ++ rowT wv N M T C o x y = l := ⟨_, rfl⟩
      have hll : LL.length ≤ 1000000000000 := by rw [← hLL, List.length_append]; have h8 := rowT_le wv N M T C o x y; have h9 := HAXL.out; have hn := HNB.out; rw [HCTe.out] at h9; have h7 := Nat.mul_le_mul (Nat.le_trans (Nat.le_of_lt hlx) hn.1) hn.2.2; omega
      have hrt := HRT2.out
      rw [hLL] at F9 hrt
      have HRT3 := Lib.hid hrt
      have HLL := Lib.hid hll
      obtain ⟨RN, hRN⟩ : ∃ z, (AX ++ rowT wv N M T C o x (y + 1)).length = z := ⟨_, rfl⟩
      have HRN := Lib.hid hRN
      have HRN2 := Lib.hid (show LL.length + 1 = RN by rw [← hRN, hrt]; simp)
      clear hLL hll hrt hRN
      go_upto_region 13 with fail
      have FD := F9.out.next ((Below.refl w10.heap.size w10).drew)
      refine wp_region_J (S := fun _ => True) (S1 := fun W9 => W9.cell? ⟨gp, 1, none⟩ = some (.int .i64 (OUTN : Int))) (L := [0, 1, 2, 3, 4, 5, 6, 7, 8, 9, 10, 11, 12, 13, 14, 15, 16]) (by kernel_rfl) trivial (FD.fr.rc 0 1 rfl HP1.out).1 (fun hHeld hHeld1 => ?_)
      obtain ⟨v0, hv0⟩ : ∃ z, w10.drew = z := ⟨_, rfl⟩
      rw [hv0] at FD hHeld1 ⊢
      clear hv0
      refine takeJ1 (i := 0) (dst := (some 57)) (v := v) rfl rfl (by kernel_rfl) (by kernel_rfl) (by kernel_rfl) (by kernel_rfl) (fun _ _ _ h => h) (by rfl) ?hyj13tn1 hHeld1 ?restj13tn1
      case hyj13tn1 =>
       intro W hSw
       go_simp
       (try with_reducible rfl)
      refine takeJ1 (i := 1) (dst := (some 58)) (v := .slice a xs.length c) rfl rfl (by kernel_rfl) (by kernel_rfl) (by kernel_rfl) (by kernel_rfl) (fun _ _ _ h => h) (by rfl) ?hyj13tn2 hHeld1 ?restj13tn2
      case hyj13tn2 =>
       intro W hSw
       go_simp
       (try with_reducible rfl)
      refine takeJ1 (i := 2) (dst := (some 59)) (v := .slice (some ⟨g9, 0, none⟩) XI.length c9) rfl rfl (by kernel_rfl) (by kernel_rfl) (by kernel_rfl) (by kernel_rfl) (fun _ _ _ h => h) (by rfl) ?hyj13tn3 hHeld1 ?restj13tn3
      case hyj13tn3 =>
       intro W hSw
       go_simp
       (try with_reducible rfl)
      refine takeJ1 (i := 4) (dst := (some 61)) (v := .slice (some ⟨b1, o1, none⟩) ws.length c2) rfl rfl (by kernel_rfl) (by kernel_rfl) (by kernel_rfl) (by kernel_rfl) (fun _ _ _ h => h) (by rfl) ?hyj13tn4 hHeld1 ?restj13tn4
      case hyj13tn4 =>
       intro W hSw
       go_simp
       (try with_reducible rfl)
      refine takeJ1 (i := 5) (dst := (some 62)) (v := .slice (some ⟨gp, 0, none⟩) PLC.length cp) rfl rfl (by kernel_rfl) (by kernel_rfl) (by kernel_rfl) (by kernel_rfl) (fun _ _ _ h => h) (by rfl) ?hyj13tn5 hHeld1 ?restj13tn5
      case hyj13tn5 =>
       intro W hSw
       go_simp
       (try with_reducible rfl)
      refine takeJ1 (i := 6) (dst := (some 63)) (v := .pointer (some ⟨gp, 1, none⟩)) rfl rfl (by kernel_rfl) (by kernel_rfl) (by kernel_rfl) (by kernel_rfl) (fun _ _ _ h => h) (by rfl) ?hyj13tn6 hHeld1 ?restj13tn6
      case hyj13tn6 =>
       intro W hSw
       obtain ⟨hxx, hxy⟩ := HP12.out
       have g1 : (1 : Int) < (PLC.length : Int) := by omega
       go_simp
       (try with_reducible rfl)
      refine takeJ1 (i := 7) (dst := (some 64)) (v := .int .i64 (OUTN : Int)) rfl rfl (by kernel_rfl) (by kernel_rfl) (by kernel_rfl) (by kernel_rfl) (fun _ _ _ h => h) (by rfl) ?hyj13tn7 hHeld1 ?restj13tn7
      case hyj13tn7 =>
       intro W hSw
       have s0 := hSw
       go_simp
       (try with_reducible rfl)
      refine takeJ1 (i := 9) (dst := (some 66)) (v := .slice (some ⟨gt, 0, none⟩) TPL.length ct) rfl rfl (by kernel_rfl) (by kernel_rfl) (by kernel_rfl) (by kernel_rfl) (fun _ _ _ h => h) (by rfl) ?hyj13tn8 hHeld1 ?restj13tn8
      case hyj13tn8 =>
       intro W hSw
       go_simp
       (try with_reducible rfl)
      refine takeJ1 (i := 12) (dst := (some 69)) (v := .int .i64 (x : Int)) rfl rfl (by kernel_rfl) (by kernel_rfl) (by kernel_rfl) (by kernel_rfl) (fun _ _ _ h => h) (by rfl) ?hyj13tn9 hHeld1 ?restj13tn9
      case hyj13tn9 =>
       intro W hSw
       go_simp
       (try with_reducible rfl)
      refine readyJ (rs := [3, 8]) (by kernel_rfl) (by simp) ?_
      refine (AllJ.cons rfl ?op3zt1 (AllJ.cons rfl ?op8zt1 AllJ.nil))
      case op3zt1 =>
       intro K hK
       go_simp
       go_at_call 54
       refine (HXI1.out v0 _ _ (FD.fr.lw 0 rfl) (FD.fr.li 3 (k := .i64) (xs := XI) rfl HWI.out)).mono ?_
       rintro e v0x3 ⟨rfl, hb⟩
       have G0x3 := FD.next hb
       clear hb
       refine hK.out _ _ (fun _ => trivial) (G0x3.fr.rc 0 1 rfl HP1.out).1 (fun hHeld hHeld1 => ?_)
       clear hK K
       refine readyJ (rs := [8]) (by kernel_rfl) (by simp) ?_
       refine (AllJ.cons rfl ?op8zt2 AllJ.nil)
       case op8zt2 =>
        intro K hK
        go_simp
        obtain ⟨g8, hg8⟩ : ∃ z, v0x3.heap.size = z := ⟨_, rfl⟩
        try rw [hg8]
        have G1x8 := G0x3.addO ((Below.refl _ _).alloc (Nat.le_refl _) (.cells #[.int .i64 (OUTN : Int)] 3)) (World.ownsRow_lit (base := v0x3.heap.size) (size := 1) (e := 3) v0x3 #[.int .i64 (OUTN : Int)] 1 (Nat.le_refl _) (by decide) rfl)
        simp only [List.cons_append, List.nil_append] at G1x8
        try rw [hg8] at G1x8
        obtain ⟨v1x8, h9_⟩ : ∃ zz, (v0x3.alloc (.cells #[.int .i64 (OUTN : Int)] 3)) = zz := ⟨_, rfl⟩
        rw [h9_] at G1x8 ⊢
        clear h9_ hg8
        refine hK.out _ _ (fun _ => trivial) (G1x8.fr.rc 0 1 rfl HP1.out).1 (fun hHeld hHeld1 => ?_)
        clear hK K
        refine readyJ (rs := [10]) (by kernel_rfl) (by simp) ?_
        refine (AllJ.cons rfl ?op10zt3 AllJ.nil)
        case op10zt3 =>
         intro K hK
         refine stepAppN 23 3 infoInt Tryz.underlying23 w.heap.size (.slice (some ⟨g8, 0, none⟩) 1 1) 1 [(OUTN : Int)] TPL TPL.length ct ⟨gt, 0, none⟩ _ _ rfl rfl rfl (G1x8.fr.r 4 rfl) rfl rfl (by have := HT12.out; omega) (fun j hj => ?_) (by omega) (by have h1 := HT12.out; have h2 := HPOL.out; have h3 := HLN.out; omega) G1x8.fr.hlo ?_
         ·have hc := (G1x8.fr.li 1 (k := .i64) (xs := TPL) rfl HWT.out).cell j hj
          obtain ⟨b9, o9, he, _, hcx⟩ := hc
          cases he
          rw [List.getElem?_eq_getElem hj] at hcx
          have ha : (⟨gt, 0, none⟩ : Addr).add j = ⟨gt, 0 + j, none⟩ := by cases j with
           | zero => rfl
           | succ j => simp [Addr.add]
          rw [ha]
          exact hcx
         intro g5 c5 v2x10 hown hgr hob
         simp only [List.singleton_append] at hown
         have G2x10 := G1x8.wroteO 4 rfl hgr hown (fun g hg => by rcases hob with h | h; exact .inl (h.trans hg); exact .inr (by injection hg with hg; simp only at hg; omega))
         simp only [List.set_cons_zero, List.set_cons_succ] at G2x10
         clear hown hgr hob
         refine hK.out _ _ (fun _ => trivial) (G2x10.fr.rc 0 1 rfl HP1.out).1 (fun hHeld hHeld1 => ?_)
         clear hK K
         refine readyJ (rs := [11]) (by kernel_rfl) (by simp) ?_
         refine (AllJ.cons rfl ?op11zt4 AllJ.nil)
         case op11zt4 =>
          intro K hK
          go_simp
          go_at_call 54
          rw [show (1 + TPL.length) = ((OUTN : Int) :: TPL).length by simp; omega]
          refine (HKI.out v2x10 _ _ (G2x10.fr.lw 1 rfl) (G2x10.fr.li 4 (k := .i64) (xs := (OUTN : Int) :: TPL) rfl (fun z hz => by rcases List.mem_cons.1 hz with rfl | hz; exact HWP.out _ (by have h9 := List.mem_of_getElem? HP1.out; obtain ⟨q, hq, hq2⟩ := List.mem_map.1 h9; injection hq2 with hq2 hq3; rw [← hq3]; exact hq); exact HWT.out z hz))).mono ?_
          rintro e v3x11 ⟨rfl, hb⟩
          have G3x11 := G2x10.next hb
          clear hb
          refine hK.out _ _ (fun _ => trivial) (G3x11.fr.rc 0 1 rfl HP1.out).1 (fun hHeld hHeld1 => ?_)
          clear hK K
          refine takeJ1 (i := 13) (dst := (some 70)) (v := .agg #[.int .i64 (TX : Int), .int .i64 (TK : Int), .int .i64 (x : Int)]) rfl rfl (by kernel_rfl) (by kernel_rfl) (by kernel_rfl) (by kernel_rfl) (fun _ _ _ h => h) (by rfl) ?hyj13tn10 hHeld1 ?restj13tn10
          case hyj13tn10 =>
           intro W hSw
           go_simp
           (try with_reducible rfl)
          refine readyJ (rs := [14]) (by kernel_rfl) (by simp) ?_
          refine (AllJ.cons rfl ?op14zt5 AllJ.nil)
          case op14zt5 =>
           intro K hK
           go_simp
           obtain ⟨gb, hgb⟩ : ∃ z, v3x11.heap.size = z := ⟨_, rfl⟩
           try rw [hgb]
           have G5x14 := G3x11.box1 hgb [.int .i64 (TX : Int), .int .i64 (TK : Int), .int .i64 (x : Int)] 63
           simp only [List.cons_append, List.nil_append] at G5x14
           obtain ⟨v5x14, h9_⟩ : ∃ zz, (v3x11.alloc (.cells #[.int .i64 (TX : Int), .int .i64 (TK : Int), .int .i64 (x : Int)] 63)) = zz := ⟨_, rfl⟩
           rw [h9_] at G5x14 ⊢
           clear h9_ hgb
           refine hK.out _ _ (fun _ => trivial) (G5x14.fr.rc 0 1 rfl HP1.out).1 (fun hHeld hHeld1 => ?_)
           clear hK K
           refine readyJ (rs := [15]) (by kernel_rfl) (by simp) ?_
           refine (AllJ.cons rfl ?op15zt6 AllJ.nil)
           case op15zt6 =>
            intro K hK
            have k0 := G5x14.fr.c 1 0 rfl rfl
            have k1 := G5x14.fr.c 1 1 rfl rfl
            have k2 := G5x14.fr.c 1 2 rfl rfl
            refine stepAppS 55 63 _ 3 24 infoTap rfl (by decide) Tryz.underlying55 w.heap.size v LL.length (cellsT LL) [.int .i64 (TX : Int), .int .i64 (TK : Int), .int .i64 (x : Int)] 1 ⟨gb, 0, none⟩ _ _ rfl rfl rfl G5x14.own rfl rfl (fun j u hj => ?_) (by intro u hu; simp at hu; rcases hu with rfl | rfl | rfl <;> rfl) HLL.out (by decide) G5x14.fr.hlo ?_
            ·match j, hj with
             | 0, hj => (simp at hj; subst hj; exact k0)
             | 1, hj => (simp at hj; subst hj; exact k1)
             | 2, hj => (simp at hj; subst hj; exact k2)
             | j + 3, hj => simp at hj
            intro g15 c15 v6x15 hown hgr hob
            rw [show cellsT LL ++ [.int .i64 (TX : Int), .int .i64 (TK : Int), .int .i64 (x : Int)] = cellsT (LL ++ [(TX, TK, x)]) by rw [cellsT_append]; rfl, ← HRT3.out, HRN2.out] at hown
            rw [HRN2.out]
            have G6x15 := G5x14.grew hgr hown (fun g hg => by rcases hob with h | h; exact .inl (h.trans hg); exact .inr (by injection hg with hg; simp only at hg; omega))
            clear hown hgr hob k0 k1 k2
            refine hK.out _ _ (fun _ => trivial) (G6x15.fr.rc 0 1 rfl HP1.out).1 (fun hHeld hHeld1 => ?_)
            clear hK K
            refine takeJ1 (i := 16) (dst := (some 9)) (v := .slice (some ⟨g15, 0, none⟩) RN c15) rfl rfl (by kernel_rfl) (by kernel_rfl) (by kernel_rfl) (by kernel_rfl) (fun _ _ _ h => h) (by rfl) ?hyj13tn11 hHeld1 ?restj13tn11
            case hyj13tn11 =>
             intro W hSw
             go_simp
             (try with_reducible rfl)
            refine doneJ (by kernel_rfl) ?_
            (try dsimp only)
            have F12 := Lib.hid (G6x15.less (.cons_cons _ (List.nil_sublist _)) (.refl _) (.cons_cons _ (List.nil_sublist _)))
            clear G6x15
            have hnb := HNB.out
            go_wp2
            go_roundw
            case rel => exact ⟨y + 1, _, hly, rfl, congrArg (Value.int .i64) (by omega), by rw [HRN.out]; exact F12⟩
            case measure => simp only [intOf]; omega
      case op8zt1 =>
       intro K hK
       go_simp
       obtain ⟨g8, hg8⟩ : ∃ z, v0.heap.size = z := ⟨_, rfl⟩
       try rw [hg8]
       have G0x8 := FD.addO ((Below.refl _ _).alloc (Nat.le_refl _) (.cells #[.int .i64 (OUTN : Int)] 3)) (World.ownsRow_lit (base := v0.heap.size) (size := 1) (e := 3) v0 #[.int .i64 (OUTN : Int)] 1 (Nat.le_refl _) (by decide) rfl)
       simp only [List.cons_append, List.nil_append] at G0x8
       try rw [hg8] at G0x8
       obtain ⟨v0x8, h9_⟩ : ∃ zz, (v0.alloc (.cells #[.int .i64 (OUTN : Int)] 3)) = zz := ⟨_, rfl⟩
       rw [h9_] at G0x8 ⊢
       clear h9_ hg8
       refine hK.out _ _ (fun _ => trivial) (G0x8.fr.rc 0 1 rfl HP1.out).1 (fun hHeld hHeld1 => ?_)
       clear hK K
       refine readyJ (rs := [3]) (by kernel_rfl) (by simp) ?_
       refine (AllJ.cons rfl ?op3zt7 AllJ.nil)
       case op3zt7 =>
        intro K hK
        go_simp
        go_at_call 54
        refine (HXI1.out v0x8 _ _ (G0x8.fr.lw 0 rfl) (G0x8.fr.li 3 (k := .i64) (xs := XI) rfl HWI.out)).mono ?_
        rintro e v1x3 ⟨rfl, hb⟩
        have G1x3 := G0x8.next hb
        clear hb
        refine hK.out _ _ (fun _ => trivial) (G1x3.fr.rc 0 1 rfl HP1.out).1 (fun hHeld hHeld1 => ?_)
        clear hK K
        refine readyJ (rs := [10]) (by kernel_rfl) (by simp) ?_
        refine (AllJ.cons rfl ?op10zt8 AllJ.nil)
        case op10zt8 =>
         intro K hK
         refine stepAppN 23 3 infoInt Tryz.underlying23 w.heap.size (.slice (some ⟨g8, 0, none⟩) 1 1) 1 [(OUTN : Int)] TPL TPL.length ct ⟨gt, 0, none⟩ _ _ rfl rfl rfl (G1x3.fr.r 4 rfl) rfl rfl (by have := HT12.out; omega) (fun j hj => ?_) (by omega) (by have h1 := HT12.out; have h2 := HPOL.out; have h3 := HLN.out; omega) G1x3.fr.hlo ?_
         ·have hc := (G1x3.fr.li 1 (k := .i64) (xs := TPL) rfl HWT.out).cell j hj
          obtain ⟨b9, o9, he, _, hcx⟩ := hc
          cases he
          rw [List.getElem?_eq_getElem hj] at hcx
          have ha : (⟨gt, 0, none⟩ : Addr).add j = ⟨gt, 0 + j, none⟩ := by cases j with
           | zero => rfl
           | succ j => simp [Addr.add]
          rw [ha]
          exact hcx
         intro g5 c5 v2x10 hown hgr hob
         simp only [List.singleton_append] at hown
         have G2x10 := G1x3.wroteO 4 rfl hgr hown (fun g hg => by rcases hob with h | h; exact .inl (h.trans hg); exact .inr (by injection hg with hg; simp only at hg; omega))
         simp only [List.set_cons_zero, List.set_cons_succ] at G2x10
         clear hown hgr hob
         refine hK.out _ _ (fun _ => trivial) (G2x10.fr.rc 0 1 rfl HP1.out).1 (fun hHeld hHeld1 => ?_)
         clear hK K
         refine readyJ (rs := [11]) (by kernel_rfl) (by simp) ?_
         refine (AllJ.cons rfl ?op11zt9 AllJ.nil)
         case op11zt9 =>
          intro K hK
          go_simp
          go_at_call 54
          rw [show (1 + TPL.length) = ((OUTN : Int) :: TPL).length by simp; omega]
          refine (HKI.out v2x10 _ _ (G2x10.fr.lw 1 rfl) (G2x10.fr.li 4 (k := .i64) (xs := (OUTN : Int) :: TPL) rfl (fun z hz => by rcases List.mem_cons.1 hz with rfl | hz; exact HWP.out _ (by have h9 := List.mem_of_getElem? HP1.out; obtain ⟨q, hq, hq2⟩ := List.mem_map.1 h9; injection hq2 with hq2 hq3; rw [← hq3]; exact hq); exact HWT.out z hz))).mono ?_
          rintro e v3x11 ⟨rfl, hb⟩
          have G3x11 := G2x10.next hb
          clear hb
          refine hK.out _ _ (fun _ => trivial) (G3x11.fr.rc 0 1 rfl HP1.out).1 (fun hHeld hHeld1 => ?_)
          clear hK K
          refine takeJ1 (i := 13) (dst := (some 70)) (v := .agg #[.int .i64 (TX : Int), .int .i64 (TK : Int), .int .i64 (x : Int)]) rfl rfl (by kernel_rfl) (by kernel_rfl) (by kernel_rfl) (by kernel_rfl) (fun _ _ _ h => h) (by rfl) ?hyj13tn12 hHeld1 ?restj13tn12
          case hyj13tn12 =>
           intro W hSw
           go_simp
           (try with_reducible rfl)
          refine readyJ (rs := [14]) (by kernel_rfl) (by simp) ?_
          refine (AllJ.cons rfl ?op14zt10 AllJ.nil)
          case op14zt10 =>
           intro K hK
           go_simp
           obtain ⟨gb, hgb⟩ : ∃ z, v3x11.heap.size = z := ⟨_, rfl⟩
           try rw [hgb]
           have G5x14 := G3x11.box1 hgb [.int .i64 (TX : Int), .int .i64 (TK : Int), .int .i64 (x : Int)] 63
           simp only [List.cons_append, List.nil_append] at G5x14
           obtain ⟨v5x14, h9_⟩ : ∃ zz, (v3x11.alloc (.cells #[.int .i64 (TX : Int), .int .i64 (TK : Int), .int .i64 (x : Int)] 63)) = zz := ⟨_, rfl⟩
           rw [h9_] at G5x14 ⊢
           clear h9_ hgb
           refine hK.out _ _ (fun _ => trivial) (G5x14.fr.rc 0 1 rfl HP1.out).1 (fun hHeld hHeld1 => ?_)
           clear hK K
           refine readyJ (rs := [15]) (by kernel_rfl) (by simp) ?_
           refine (AllJ.cons rfl ?op15zt11 AllJ.nil)
           case op15zt11 =>
            intro K hK
            have k0 := G5x14.fr.c 1 0 rfl rfl
            have k1 := G5x14.fr.c 1 1 rfl rfl
            have k2 := G5x14.fr.c 1 2 rfl rfl
            refine stepAppS 55 63 _ 3 24 infoTap rfl (by decide) Tryz.underlying55 w.heap.size v LL.length (cellsT LL) [.int .i64 (TX : Int), .int .i64 (TK : Int), .int .i64 (x : Int)] 1 ⟨gb, 0, none⟩ _ _ rfl rfl rfl G5x14.own rfl rfl (fun j u hj => ?_) (by intro u hu; simp at hu; rcases hu with rfl | rfl | rfl <;> rfl) HLL.out (by decide) G5x14.fr.hlo ?_
            ·match j, hj with
             | 0, hj => (simp at hj; subst hj; exact k0)
             | 1, hj => (simp at hj; subst hj; exact k1)
             | 2, hj => (simp at hj; subst hj; exact k2)
             | j + 3, hj => simp at hj
            intro g15 c15 v6x15 hown hgr hob
            rw [show cellsT LL ++ [.int .i64 (TX : Int), .int .i64 (TK : Int), .int .i64 (x : Int)] = cellsT (LL ++ [(TX, TK, x)]) by rw [cellsT_append]; rfl, ← HRT3.out, HRN2.out] at hown
            rw [HRN2.out]
            have G6x15 := G5x14.grew hgr hown (fun g hg => by rcases hob with h | h; exact .inl (h.trans hg); exact .inr (by injection hg with hg; simp only at hg; omega))
            clear hown hgr hob k0 k1 k2
            refine hK.out _ _ (fun _ => trivial) (G6x15.fr.rc 0 1 rfl HP1.out).1 (fun hHeld hHeld1 => ?_)
            clear hK K
            refine takeJ1 (i := 16) (dst := (some 9)) (v := .slice (some ⟨g15, 0, none⟩) RN c15) rfl rfl (by kernel_rfl) (by kernel_rfl) (by kernel_rfl) (by kernel_rfl) (fun _ _ _ h => h) (by rfl) ?hyj13tn13 hHeld1 ?restj13tn13
            case hyj13tn13 =>
             intro W hSw
             go_simp
             (try with_reducible rfl)
            refine doneJ (by kernel_rfl) ?_
            (try dsimp only)
            have F12 := Lib.hid (G6x15.less (.cons_cons _ (List.nil_sublist _)) (.refl _) (.cons_cons _ (List.nil_sublist _)))
            clear G6x15
            have hnb := HNB.out
            go_wp2
            go_roundw
            case rel => exact ⟨y + 1, _, hly, rfl, congrArg (Value.int .i64) (by omega), by rw [HRN.out]; exact F12⟩
            case measure => simp only [intOf]; omega
    ·obtain rfl : y = CT := by omega
     have hyi : ¬ (y : Int) < (y : Int) := by omega
     have F13 := Lib.hid (F4.out.less (.refl _) (.refl _) (List.nil_sublist _))
     have hat : AX ++ rowT wv N M T C o x y = allT wv N M T C o (x + 1) := by rw [allT, HAX.out, HCTe.out]
     rw [hat] at F13
     have hnb := HNB.out
     go_wp2_with (first | (go_at_call 19; refine (HCK.out _ (F4.out.fr.lw 6 rfl)).mono ?_; rintro e w' ⟨rfl, rfl⟩) | fail)
     go_roundw
     case rel => exact ⟨x + 1, v, hlx, rfl, congrArg (Value.int .i64) (by omega), F13⟩
     case measure => simp only [intOf]; omega
  ·obtain rfl : x = NN := by omega
   have hxi : ¬ (x : Int) < (x : Int) := by omega
   go_wp2_with (first | (go_at_call 19; refine (HCS.out _ (F2.out.fr.lw 2 rfl)).mono ?_; rintro e w' ⟨rfl, rfl⟩) | fail)
   go_ret
   exact ⟨v, rfl, F2.out.own, F2.out.fr.bel⟩
end Go.Proofs.YtadlnmckcnfacaaGreat
