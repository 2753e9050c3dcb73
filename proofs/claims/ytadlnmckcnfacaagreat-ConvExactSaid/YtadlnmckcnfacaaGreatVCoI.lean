import Derived.Test.YtadlnmckcnfacaaGreatVCoH
set_option linter.unusedVariables false
set_option linter.unusedSimpArgs false
namespace Go.Proofs.YtadlnmckcnfacaaGreat
open Go.RowKit Go.Rt
attribute [local go_sem] Oper.semAt_some
def RetB (w : World) (e : Ending) (w' : World) : Prop := (∃ B : Bool, e = .returned (.bool B)) ∧ Below w.heap.size w w'

set_option maxRecDepth 100000 in
set_option maxHeartbeats 4000000 in
theorem wide_any (aX aK aQ aS aP aD : Option Addr) (cX cK cQ cS cP cD : Nat) (xs ks Q Sx Px Dx : List Int) (w : World) (h0 : Ints .i64 w w.heap.size aX xs) (h1 : Ints .i64 w w.heap.size aK ks) (hQ : Ints .i64 w w.heap.size aQ Q) (h2 : Ints .i64 w w.heap.size aS Sx) (h3 : Ints .i64 w w.heap.size aP Px) (h4 : Ints .i64 w w.heap.size aD Dx) :
  Calls Tryz.prog 16 #[.slice aX xs.length cX, .slice aK ks.length cK, .agg #[.slice aQ Q.length cQ, .slice aS Sx.length cS, .slice aP Px.length cP, .slice aD Dx.length cD]] w (RetB w) := by
 have hl1 := h0.len
 have hl2 := h1.len
 have HMY := Lib.hid (fun W hK hS hP hD => refMay_any false aQ aS aP aD cQ cS cP cD Q Sx Px Dx W hK hS hP hD)
 have HG := Lib.hid (fun W (h : Ints .i64 W W.heap.size aX xs) => rmay_any aX cX W.heap.size xs W h)
 have HSP := Lib.hid (fun W h0 h1 h2 h3 h4 r l2 l3 l4 l5 l6 => spatialW_any xs ks Q Sx Px Dx aX aK aQ aS aP aD cX cK cQ cS cP cD W h0 h1 h2 h3 h4 r l2 l3 l4 l5 l6)
 have F1 := Lib.hid ((Fr.start (w := w) (I := [(.i64, aX, xs), (.i64, aK, ks), (.i64, aQ, Q), (.i64, aS, Sx), (.i64, aP, Px), (.i64, aD, Dx)]) (by intro z hz; simp at hz; rcases hz with rfl | rfl | rfl | rfl | rfl | rfl; exact h0; exact h1; exact hQ; exact h2; exact h3; exact h4)).box1 (b := w.heap.size) rfl [.slice aQ Q.length cQ, .slice aS Sx.length cS, .slice aP Px.length cP, .slice aD Dx.length cD] 28)
 simp only [List.nil_append] at F1
 clear h0 h1 h2 h3 h4 hQ
 go_enter Tryz.func16, Tryz.ntmps16
 go_upto_region 1 with fail
 obtain ⟨W1, hW1⟩ : ∃ W1, w.alloc (.cells #[.slice aQ Q.length cQ, .slice aS Sx.length cS, .slice aP Px.length cP, .slice aD Dx.length cD] 28) = W1 := ⟨_, rfl⟩
 rw [hW1] at F1 ⊢
 clear hW1
 have c0_0 := F1.out.c 0 0 rfl rfl
 have c0_1 := F1.out.c 0 1 rfl rfl
 have c0_2 := F1.out.c 0 2 rfl rfl
 have c0_3 := F1.out.c 0 3 rfl rfl
 have hmy := HMY.out
 clear HMY
 cases hn : numB false Q Sx Px Dx with
 | false =>
  rw [hn] at hmy
  have HMY := Lib.hid hmy
  clear hmy hn
  go_wp2_with (first | (go_at_call 7; refine (HMY.out _ (F1.out.lw 2 rfl) (F1.out.lw 3 rfl) (F1.out.lw 4 rfl) (F1.out.lw 5 rfl)).mono ?_; rintro e w2 ⟨rfl, hb⟩; have F2 := Lib.hid (F1.out.next hb); clear hb F1 c0_0 c0_1 c0_2 c0_3; have c0_0 := F2.out.c 0 0 rfl rfl; have c0_1 := F2.out.c 0 1 rfl rfl; have c0_2 := F2.out.c 0 2 rfl rfl; have c0_3 := F2.out.c 0 3 rfl rfl) | (go_at_call 18; refine (HG.out _ (F2.out.lw 0 rfl)).mono ?_; rintro e w3 ⟨rfl, rfl⟩; skip) | fail)
  go_ret
  exact ⟨⟨_, rfl⟩, F2.out.bel⟩
 | true =>
  rw [hn] at hmy
  have HMY := Lib.hid hmy
  have HN := Lib.hid (num_iff.1 hn)
  clear hmy hn
  have hg := HG.out
  clear HG
  cases hgb : goodB xs with
  | false =>
   rw [hgb] at hg
   have HG := Lib.hid hg
   clear hg hgb
   go_wp2_with (first | (go_at_call 7; refine (HMY.out _ (F1.out.lw 2 rfl) (F1.out.lw 3 rfl) (F1.out.lw 4 rfl) (F1.out.lw 5 rfl)).mono ?_; rintro e w2 ⟨rfl, hb⟩; have F2 := Lib.hid (F1.out.next hb); clear hb F1 c0_0 c0_1 c0_2 c0_3; have c0_0 := F2.out.c 0 0 rfl rfl; have c0_1 := F2.out.c 0 1 rfl rfl; have c0_2 := F2.out.c 0 2 rfl rfl; have c0_3 := F2.out.c 0 3 rfl rfl) | (go_at_call 18; refine (HG.out _ (F2.out.lw 0 rfl)).mono ?_; rintro e w3 ⟨rfl, rfl⟩; skip) | fail)
   go_ret
   exact ⟨⟨_, rfl⟩, F2.out.bel⟩
  | true =>
   rw [hgb] at hg
   have HG := Lib.hid hg
   clear hg hgb
   have HWL := Lib.hid (show IntKind.i64.wrap ((Sx.length : Int) + 2) = (Sx.length : Int) + 2 from IntWalk.i64_in _ (by have := HN.out.1.2.1; omega))
   have hwl := HWL.out
   by_cases hx2 : xs.length = 2 + Sx.length
   ·skip
    have hxb : ((xs.length : Int) != (Sx.length : Int) + 2) = false := bne_eq_false_iff_eq.2 (by omega)
    have HX2 := Lib.hid hx2
    clear hx2
    by_cases hk2 : ks.length = Sx.length
    ·skip
     have hkb : ((ks.length : Int) != (Sx.length : Int)) = false := bne_eq_false_iff_eq.2 (by omega)
     have HK2 := Lib.hid hk2
     clear hk2
     have hsp := fun W h0 h1 h2 h3 h4 => HSP.out W h0 h1 h2 h3 h4 (by have := HN.out.1.2.1; have := HK2.out; omega) HK2.out.symm (by have := HN.out.1.2.2.1; have := HK2.out; omega) (by have := HN.out.1.2.2.2.1; have := HK2.out; omega) (by have := HX2.out; have := HK2.out; omega) (fun x hx => by have := HN.out.2.1 x hx; omega)
     have HSP2 := Lib.hid hsp
     clear HSP hsp
     go_upto_region 3 with (first | (go_at_call 7; refine (HMY.out _ (F1.out.lw 2 rfl) (F1.out.lw 3 rfl) (F1.out.lw 4 rfl) (F1.out.lw 5 rfl)).mono ?_; rintro e w2 ⟨rfl, hb⟩; have F2 := Lib.hid (F1.out.next hb); clear hb F1 c0_0 c0_1 c0_2 c0_3; have c0_0 := F2.out.c 0 0 rfl rfl; have c0_1 := F2.out.c 0 1 rfl rfl; have c0_2 := F2.out.c 0 2 rfl rfl; have c0_3 := F2.out.c 0 3 rfl rfl) | (go_at_call 18; refine (HG.out _ (F2.out.lw 0 rfl)).mono ?_; rintro e w3 ⟨rfl, rfl⟩; skip) | fail)
     go_upto_region 4 with (first | (go_at_call 50; refine (HSP2.out _ (F2.out.lw 0 rfl) (F2.out.lw 1 rfl) (F2.out.lw 3 rfl) (F2.out.lw 4 rfl) (F2.out.lw 5 rfl)).mono ?_; rintro e w6 ⟨l, bk, hlk, al, cl, rfl, hf⟩; have HLK := Lib.hid hlk; have F6 := Lib.hid (F2.out.join hf); simp only [List.nil_append] at F6; clear hf hlk F2 c0_0 c0_1 c0_2 c0_3) | fail)
     clear HSP2 HMY HG hxb hwl hkb HWL
     cases bk with
     | false =>
      go_wp2
      go_loopw [9, 10] (fun s9 s10 wr => s9 = .int .i64 1 ∧ s10 = .int .i64 0 ∧ Hid (Below w.heap.size w wr)) (fun _ _ _ => 0)
      case atStart => exact ⟨rfl, rfl, Lib.hid F6.out.bel⟩
      case round =>
       obtain ⟨rfl, rfl, HB⟩ := hrel
       obtain ⟨wo, rfl⟩ : ∃ x : World, x = wr := ⟨_, rfl⟩
       clear F6
       go_wp2
       all_goals (go_ret; exact ⟨⟨_, rfl⟩, HB.out⟩)
     | true =>
      go_wp2
      go_loopw [9, 10] (fun s9 s10 wr => ∃ (j : Nat) (n : Int), j ≤ l.length ∧ s10 = .int .i64 j ∧ s9 = .int .i64 n ∧ Hid (Fr w.heap.size w wr [(w.heap.size, [.slice aQ Q.length cQ, .slice aS Sx.length cS, .slice aP Px.length cP, .slice aD Dx.length cD])] [(.i64, aX, xs), (.i64, aK, ks), (.i64, aQ, Q), (.i64, aS, Sx), (.i64, aP, Px), (.i64, aD, Dx)] [⟨3, .slice al l.length cl, l.length, l.map (Value.int .i64)⟩] [])) (fun _ s10 _ => l.length - (intOf s10).toNat)
      case atStart => exact ⟨0, 1, Nat.zero_le _, rfl, rfl, F6⟩
      case round =>
       obtain ⟨j, n, hj, rfl, rfl, F7⟩ := hrel
       clear F6
       obtain ⟨wo, rfl⟩ : ∃ x : World, x = wr := ⟨_, rfl⟩
       by_cases hlt : j < l.length
       ·skip
        have HLT := Lib.hid hlt
        have hjl : (j : Int) < (l.length : Int) := by omega
        have hjK : j < ks.length := by have := HLK.out; omega
        have hjKi : (j : Int) < (ks.length : Int) := by omega
        have hlL : l.length ≤ 1000000 := by have := HLK.out; have := HN.out.1.2.1; have := HK2.out; omega
        obtain ⟨lv, hlv⟩ : ∃ z, l[j]? = some z := ⟨_, List.getElem?_eq_getElem hlt⟩
        have gL : (l.map (Value.int .i64))[j]? = some (.int .i64 lv) := by rw [List.getElem?_map, hlv]; rfl
        obtain ⟨al', cl', he, hsh⟩ := own_shape (F7.out.r 0 rfl)
        simp only [Value.slice.injEq] at he
        obtain ⟨rfl, _, rfl⟩ := he
        obtain ⟨gl, rfl, _⟩ := hsh.resolve_left (show ¬ l.length = 0 by omega)
        have rl := (F7.out.rc 0 j rfl gL).1
        obtain ⟨gK, oK, rfl, _, hcK⟩ := (F7.out.l 1 rfl).cell j hjK
        obtain ⟨kv, hkv⟩ : ∃ z, ks[j]?.getD 0 = z := ⟨_, rfl⟩
        rw [hkv] at hcK
        clear hkv hlv gL hsh
        by_cases h3 : (20 : Int) < kv
        ·skip
         go_wp2
         go_ret
         exact ⟨⟨_, rfl⟩, F7.out.bel⟩
        by_cases h4 : (400 : Int) < lv
        ·skip
         go_wp2
         go_ret
         exact ⟨⟨_, rfl⟩, F7.out.bel⟩
        go_upto_region 10 with fail
        clear h3 h4 hjK
        go_quiet (fail)
        go_wp2
        go_roundw
        case rel => exact ⟨j + 1, _, HLT.out, by go_num, rfl, by first | exact Lib.hid F7.out.drew | exact Lib.hid (F7.out.drewN _) | exact F7⟩
        case measure => have := HLT.out; simp [intOf]; omega
       ·obtain rfl : j = l.length := by omega
        go_wp2
        go_ret
        exact ⟨⟨_, rfl⟩, F7.out.bel⟩
    ·skip
     have hkb : ((ks.length : Int) != (Sx.length : Int)) = true := by rw [bne_iff_ne]; omega
     clear hk2
     go_wp2_with (first | (go_at_call 7; refine (HMY.out _ (F1.out.lw 2 rfl) (F1.out.lw 3 rfl) (F1.out.lw 4 rfl) (F1.out.lw 5 rfl)).mono ?_; rintro e w2 ⟨rfl, hb⟩; have F2 := Lib.hid (F1.out.next hb); clear hb F1 c0_0 c0_1 c0_2 c0_3; have c0_0 := F2.out.c 0 0 rfl rfl; have c0_1 := F2.out.c 0 1 rfl rfl; have c0_2 := F2.out.c 0 2 rfl rfl; have c0_3 := F2.out.c 0 3 rfl rfl) | (go_at_call 18; refine (HG.out _ (F2.out.lw 0 rfl)).mono ?_; rintro e w3 ⟨rfl, rfl⟩; skip) | fail)
     go_ret
     exact ⟨⟨_, rfl⟩, F2.out.bel⟩
   ·skip
    have hxb : ((xs.length : Int) != (Sx.length : Int) + 2) = true := by rw [bne_iff_ne]; omega
    clear hx2
    go_wp2_with (first | (go_at_call 7; refine (HMY.out _ (F1.out.lw 2 rfl) (F1.out.lw 3 rfl) (F1.out.lw 4 rfl) (F1.out.lw 5 rfl)).mono ?_; rintro e w2 ⟨rfl, hb⟩; have F2 := Lib.hid (F1.out.next hb); clear hb F1 c0_0 c0_1 c0_2 c0_3; have c0_0 := F2.out.c 0 0 rfl rfl; have c0_1 := F2.out.c 0 1 rfl rfl; have c0_2 := F2.out.c 0 2 rfl rfl; have c0_3 := F2.out.c 0 3 rfl rfl) | (go_at_call 18; refine (HG.out _ (F2.out.lw 0 rfl)).mono ?_; rintro e w3 ⟨rfl, rfl⟩; skip) | fail)
    go_ret
    exact ⟨⟨_, rfl⟩, F2.out.bel⟩
end Go.Proofs.YtadlnmckcnfacaaGreat
