/- Walks: the reference's Left, Into. -/
import Derived.Test.YtinboddfmojodaaGreatRdX
set_option linter.unusedVariables false
set_option linter.unusedSimpArgs false
namespace Go.Proofs.YtinboddfmojodaaGreat
open Go.RowKit Go.Rt

set_option maxHeartbeats 1000000 in
theorem left8_any (a a2 : Option Addr) (c c2 : Nat) (s axes : List Int) (w : World) (h : Ints .i64 w w.heap.size a s) (h2 : Ints .i64 w w.heap.size a2 axes) (hl : s.length ≤ 1000) :
    Calls Tryz.prog 20 #[.slice a s.length c, .slice a2 axes.length c2] w (RetInts w (restL s axes)) := by
  have H0 := Lib.hid h
  have H1 := Lib.hid h2
  have F1 := Lib.hid ((Fr.start (w := w) (I := [(.i64, a, s), (.i64, a2, axes)]) (by intro z hz; simp at hz; rcases hz with rfl | rfl; exact H0.out; exact H1.out)).addNil 3)
  simp only [List.nil_append] at F1
  clear h h2
  go_enter Tryz.func20, Tryz.ntmps20
  go_wp2
  go_loopw [5, 6] (fun s4 i wr => ∃ (j : Nat) (ab : Option Addr) (cb : Nat), j ≤ s.length ∧ i = .int .i64 j ∧ s4 = .slice ab (restJ s axes j).length cb ∧ Hid (Fr w.heap.size w wr [] [(.i64, a, s), (.i64, a2, axes)] [⟨3, .slice ab (restJ s axes j).length cb, (restJ s axes j).length, (restJ s axes j).map (Value.int .i64)⟩] [])) (fun _ i _ => s.length - (intOf i).toNat)
  case atStart => exact ⟨0, none, 0, Nat.zero_le _, rfl, rfl, F1⟩
  case round =>
    obtain ⟨j, ab, cb, hj, rfl, rfl, F2⟩ := hrel
    obtain ⟨wo, rfl⟩ : ∃ wo : World, wo = wr := ⟨_, rfl⟩
    clear F1
    by_cases hlt : j < s.length
    · obtain ⟨b, off, rfl, hlb, hcell⟩ := (F2.out.l 0 rfl).cell j hlt
      have hji : (j : Int) < (s.length : Int) := by omega
      have hco := Lib.hid (in_any a2 c2 wo.heap.size axes (j : Int) wo (F2.out.lw 1 rfl))
      have hrl := restJ_len s axes j
      have HRL := Lib.hid (show (restJ s axes j).length ≤ 1000000 by omega)
      clear hrl
      have hhb : hasB axes (j : Int) = inB axes (j : Int) := rfl
      rw [hhb] at hco
      clear hhb
      cases hb : inB axes (j : Int) with
      | true =>
        rw [hb] at hco
        have HE := Lib.hid (restJ_in (s := s) hb)
        clear hb
        go_wp2_with (first | (go_at_call 41; refine hco.out.mono ?_; rintro e w' ⟨rfl, rfl⟩) | fail)
        go_roundw
        case rel => exact ⟨j + 1, ab, cb, by omega, by go_num, by rw [HE.out], by rw [HE.out]; exact F2⟩
        case measure => simp [intOf]; omega
      | false =>
        rw [hb] at hco
        have HE := Lib.hid (restJ_out (s := s) hb)
        clear hb
        obtain ⟨x, hx⟩ : ∃ x, s[j]?.getD 0 = x := ⟨_, rfl⟩
        rw [hx] at hcell HE
        obtain ⟨L, hL⟩ : ∃ l, restJ s axes j = l := ⟨_, rfl⟩
        rw [hL] at F2 HE HRL ⊢
        clear hx hL
        go_wp2_with (first | (go_at_call 41; refine hco.out.mono ?_; rintro e w' ⟨rfl, rfl⟩) | (at_builtin; refine appendI w.heap.size (.slice ab L.length cb) L.length L x _ _ _ rfl rfl rfl (F2.out.r 0 rfl) rfl HRL.out F2.out.hlo ?_; intro v' w8 hown hbel hgr hob; obtain ⟨a8, c8, rfl, _⟩ := own_shape hown; have F8 := Lib.hid (F2.out.wroteO 0 rfl hgr hown (fun g hg => by rcases hob with h | h; exact .inl (h.symm.trans hg); exact .inr (by rw [h] at hg; injection hg with hg; omega))); simp only [List.set_cons_zero] at F8; clear hown hbel hgr hob F2) | fail)
        have hL2 : L.length + 1 = (L ++ [x]).length := by simp
        rw [hL2] at F8 ⊢
        go_roundw
        case rel => exact ⟨j + 1, a8, c8, by omega, by go_num, by rw [HE.out], by rw [HE.out]; exact F8⟩
        case measure => simp [intOf]; omega
    · obtain rfl : j = s.length := by omega
      go_wp2
      (try simp only [Exit.noGoto, Exit.inBlock, Exit.then])
      go_ret
      exact ⟨_, rfl, F2.out.r 0 rfl, F2.out.bel⟩
set_option maxHeartbeats 1000000 in
theorem into8_any (a a2 : Option Addr) (c c2 : Nat) (s axes : List Int) (n : Int) (w : World) (h : Ints .i64 w w.heap.size a s) (h2 : Ints .i64 w w.heap.size a2 axes) (hg : goodB s = true) (h0 : 0 ≤ n) (h1 : n < prodI s) :
    Calls Tryz.prog 21 #[.slice a s.length c, .slice a2 axes.length c2, .int .i64 n] w fun e w' => e = .returned (.int .i64 (intoI s axes n)) ∧ Below w.heap.size w w' := by
  have hD := goodB_dims hg
  have hl4 := (goodB_iff.1 hg).1
  have hgr := restL_good (axes := axes) hg
  have hwi := restL_within (axes := axes) (standsI_within s n hD)
  have hwS : ∀ x ∈ restL s axes, (Lit.int .i64 x).wf = true := wf_dims (fun x hx => by have := goodB_dims hgr x hx; omega)
  have hwI : ∀ x ∈ standsI s n, (Lit.int .i64 x).wf = true := wf_stands hD
  have hsl := standsI_length s n
  have hwR : ∀ x ∈ restL (standsI s n) axes, (Lit.int .i64 x).wf = true := fun x hx => hwI x (restL_mem hx)
  have hin : placeI (restL s axes) (restL (standsI s n) axes) = intoI s axes n := rfl
  have hat := fun W (h : Ints .i64 W W.heap.size a s) => rat_any a c s n W h hg h0 h1
  obtain ⟨SI, hSI⟩ : ∃ l, standsI s n = l := ⟨_, rfl⟩
  obtain ⟨RS, hRS⟩ : ∃ l, restL s axes = l := ⟨_, rfl⟩
  have hle1 := fun W (h : Ints .i64 W W.heap.size a s) (h2 : Ints .i64 W W.heap.size a2 axes) => left8_any a a2 c c2 s axes W h h2 (by omega)
  have hle2 := fun a9 c9 W (h : Ints .i64 W W.heap.size a9 SI) (h2 : Ints .i64 W W.heap.size a2 axes) => left8_any a9 a2 c9 c2 SI axes W h h2 (by rw [← hSI, hsl]; omega)
  rw [hSI] at hwi hwI hwR hin hat
  rw [hRS] at hwi hwS hin hle1 hgr
  obtain ⟨RI, hRI⟩ : ∃ l, restL SI axes = l := ⟨_, rfl⟩
  rw [hRI] at hwi hwR hin hle2
  have HWS := Lib.hid hwS
  have HWI := Lib.hid hwI
  have HWR := Lib.hid hwR
  have HIN := Lib.hid hin
  have HAT := Lib.hid hat
  have HL1 := Lib.hid hle1
  have HL2 := Lib.hid hle2
  have HGR := Lib.hid hgr
  have HW := Lib.hid hwi
  have H0 := Lib.hid h
  have H1 := Lib.hid h2
  have M1 : True := trivial
  have F1 := Lib.hid (Fr.start (w := w) (I := [(.i64, a, s), (.i64, a2, axes)]) (by intro z hz; simp at hz; rcases hz with rfl | rfl; exact H0.out; exact H1.out))
  clear h h2 hg h0 h1 hD hl4 hgr hwi hwS hwI hsl hwR hin hat hSI hRS hle1 hle2 hRI
  go_enter Tryz.func21, Tryz.ntmps21
  go_wp2_with (first
    | (go_at_call 20; have hmk := M1; clear hmk M1; refine (HL1.out _ (F1.out.lw 0 rfl) (F1.out.lw 1 rfl)).mono ?_; rintro e w2 ⟨v, rfl, hown, hb⟩; obtain ⟨a3, c3, rfl, _⟩ := own_shape hown; have F2 := Lib.hid (F1.out.addO hb hown); simp only [List.nil_append] at F2; clear hown hb F1)
    | (go_at_call 26; refine (HAT.out _ (F2.out.lw 0 rfl)).mono ?_; rintro e w3 ⟨v, rfl, hown, hb⟩; obtain ⟨a4, c4, rfl, _⟩ := own_shape hown; have F3 := Lib.hid (F2.out.addO hb hown); simp only [List.cons_append, List.nil_append] at F3; clear hown hb F2)
    | (go_at_call 20; refine (HL2.out a4 c4 _ (F3.out.li 1 (k := .i64) (xs := SI) rfl HWI.out) (F3.out.lw 1 rfl)).mono ?_; rintro e w4 ⟨v, rfl, hown, hb⟩; obtain ⟨a5, c5, rfl, _⟩ := own_shape hown; have F4 := Lib.hid (F3.out.addO hb hown); simp only [List.cons_append, List.nil_append] at F4; clear hown hb F3)
    | (go_at_call 42; refine (rindex_any a3 a5 c3 c5 RS RI _ (F4.out.li 0 (k := .i64) (xs := RS) rfl HWS.out) (F4.out.li 2 (k := .i64) (xs := RI) rfl HWR.out) HGR.out HW.out).mono ?_; rintro e w5 ⟨rfl, hb⟩; rw [HIN.out]; have F5 := Lib.hid (F4.out.next hb); clear hb F4) | fail)
  go_ret
  exact ⟨rfl, F5.out.bel⟩

end Go.Proofs.YtinboddfmojodaaGreat
