import Derived.Test.YtadlnmckcnfacaaGreatVCoR
set_option linter.unusedVariables false
set_option linter.unusedSimpArgs false
namespace Go.Proofs.YtadlnmckcnfacaaGreat
open Go.RowKit Go.Rt
attribute [local go_sem] Oper.semAt_some
set_option maxHeartbeats 1000000 in
theorem num11_any (e : Int) (w : World) : Calls Tryz.prog 49 #[.int .i64 e] w fun r w' => r = .returned (.int .i64 e) ∧ w = w' := by
 go_enter Tryz.func49, Tryz.ntmps49
 go_wp2
 go_ret
 exact ⟨rfl, rfl⟩
def IsI (u : Value) (_ : World) : Prop := ∃ z : Int, u = .int .i64 z
theorem isI_carries : Carries IsI := fun _ _ _ h _ => h
def RetLW (w : World) (n : Nat) (e : Ending) (w' : World) : Prop := ∃ l b, l.length ≤ n ∧ RetLB w l b e w'
set_option maxHeartbeats 1000000 in
theorem placesW_any (el ek es ep ed : Int) (w : World) (h : 1 ≤ es) : Calls Tryz.prog 85 #[.int .i64 el, .int .i64 ek, .int .i64 es, .int .i64 ep, .int .i64 ed] w fun e w' => (∃ z : Int, e = .returned (.int .i64 z)) ∧ w = w' := by
 have hes : ¬ es = 0 := by omega
 clear h
 go_enter Tryz.func85, Tryz.ntmps85
 go_upto_region 2 with fail
 skip
 go_wp2
 all_goals (first | (go_ret; exact ⟨⟨_, rfl⟩, rfl⟩) | skip)
set_option maxHeartbeats 1000000 in
theorem kernel_any (a : Option Addr) (c : Nat) (xs : List Int) (w : World) (h : Ints .i64 w w.heap.size a xs) : Calls Tryz.prog 17 #[.slice a xs.length c] w fun e w' => e = .returned (.bool (xs.all (okI 1))) ∧ w = w' := by
 obtain ⟨hm, _, hc⟩ := h
 go_enter Tryz.func17, Tryz.ntmps17
 go_wp2
 go_loop [3] (fun i => ∃ k : Nat, k ≤ xs.length ∧ i = .int .i64 k ∧ ∀ j, j < k → okI 1 (xs[j]?.getD 0) = true) (fun i => xs.length - (intOf i).toNat)
 case atStart => exact ⟨0, Nat.zero_le _, rfl, fun j hj => absurd hj (Nat.not_lt_zero j)⟩
 case round =>
  obtain ⟨k, hk, rfl, hall⟩ := hrel
  have HALL := Lib.hid hall
  clear hall
  by_cases hlt : k < xs.length
  ·obtain ⟨b, off, rfl, _, hcell⟩ := hc k hlt
   obtain ⟨x, hx⟩ : ∃ z, xs[k]?.getD 0 = z := ⟨_, rfl⟩
   rw [hx] at hcell
   have HX := Lib.hid hx
   have hki : (k : Int) < (xs.length : Int) := by omega
   clear hc hx
   by_cases h1 : x < 1 ∨ 4096 < x
   ·have hf : xs.all (okI 1) = false := by
     rw [List.all_eq_false]
     refine ⟨x, by rw [← HX.out]; exact getD_mem hlt, ?_⟩
     unfold okI
     simp
     omega
    have HF := Lib.hid hf
    clear hf
    rcases h1 with h1 | h1
    ·go_wp2
     go_ret
     exact ⟨by rw [HF.out]; rfl, rfl⟩
    ·have h2 : ¬ x < 1 := by omega
     go_wp2
     go_ret
     exact ⟨by rw [HF.out]; rfl, rfl⟩
   ·have h2 : ¬ x < 1 := by omega
    have h3 : ¬ 4096 < x := by omega
    clear h1
    go_wp2
    go_round
    case rel => exact ⟨k + 1, by omega, by go_num, fun j hj => by
     by_cases hjk : j < k
     ·exact HALL.out j hjk
     ·obtain rfl : j = k := by omega
      rw [HX.out]; exact okI_iff.2 ⟨by omega, by omega⟩⟩
    case measure => simp [intOf]; omega
  ·obtain rfl : k = xs.length := by omega
   have ht : xs.all (okI 1) = true := List.all_eq_true.2 fun y hy => by
    obtain ⟨j, hj, rfl⟩ := List.getElem_of_mem hy
    have := HALL.out j hj
    rw [List.getElem?_eq_getElem hj] at this
    exact this
   have HT := Lib.hid ht
   clear ht hc
   go_wp2
   go_ret
   exact ⟨by rw [HT.out]; rfl, rfl⟩
set_option maxRecDepth 100000 in
set_option maxHeartbeats 2000000 in
theorem spatialW_any (xs ks Q Sx Px Dx : List Int) (aX aK aQ aS aP aD : Option Addr) (cX cK cQ cS cP cD : Nat) (w : World) (h0 : Ints .i64 w w.heap.size aX xs) (h1 : Ints .i64 w w.heap.size aK ks) (h2 : Ints .i64 w w.heap.size aS Sx) (h3 : Ints .i64 w w.heap.size aP Px) (h4 : Ints .i64 w w.heap.size aD Dx) (hr2 : ks.length ≤ 2) (l2 : Sx.length = ks.length) (l3 : Px.length = ks.length) (l4 : Dx.length = ks.length) (hx2 : xs.length = 2 + ks.length) (hds : ∀ x ∈ Sx, 1 ≤ x ∧ x ≤ 4096) :
  Calls Tryz.prog 50 #[.slice aX xs.length cX, .slice aK ks.length cK, .agg #[.slice aQ Q.length cQ, .slice aS Sx.length cS, .slice aP Px.length cP, .slice aD Dx.length cD]] w (RetLW w ks.length) := by
 have F1 := Lib.hid (((Fr.start (w := w) (I := [(.i64, aX, xs), (.i64, aK, ks), (.i64, aS, Sx), (.i64, aP, Px), (.i64, aD, Dx)]) (by intro z hz; simp at hz; rcases hz with rfl | rfl | rfl | rfl | rfl; exact h0; exact h1; exact h2; exact h3; exact h4)).box1 (b := w.heap.size) rfl [.slice aQ Q.length cQ, .slice aS Sx.length cS, .slice aP Px.length cP, .slice aD Dx.length cD] 28).addNil 3)
 simp only [List.nil_append, List.cons_append] at F1
 obtain ⟨r, hrr⟩ : ∃ r, ks.length = r := ⟨_, rfl⟩
 rw [hrr] at hr2 l2 l3 l4 hx2
 have hlen := h0.len
 have HRR := Lib.hid hrr
 have HLS := Lib.hid l2
 have HLP := Lib.hid l3
 have HLD := Lib.hid l4
 have HX2 := Lib.hid hx2
 have HDS := Lib.hid hds
 clear h0 h1 h2 h3 h4 hrr l2 l3 l4 hx2 hds
 go_enter Tryz.func50, Tryz.ntmps50
 go_upto_region 1 with fail
 obtain ⟨W1, hW1⟩ : ∃ W1, w.alloc (.cells #[.slice aQ Q.length cQ, .slice aS Sx.length cS, .slice aP Px.length cP, .slice aD Dx.length cD] 28) = W1 := ⟨_, rfl⟩
 rw [hW1] at F1 ⊢
 clear hW1
 go_wp2
 go_loopw [8, 9] (fun s8 s9 wr => ∃ (k : Nat) (ab : Option Addr) (cb : Nat) (lo9 : List Int), k ≤ r ∧ s8 = .slice ab k cb ∧ s9 = .int .i64 k ∧ Hid (lo9.length = k) ∧ Hid (Fr w.heap.size w wr [(w.heap.size, [.slice aQ Q.length cQ, .slice aS Sx.length cS, .slice aP Px.length cP, .slice aD Dx.length cD])] [(.i64, aX, xs), (.i64, aK, ks), (.i64, aS, Sx), (.i64, aP, Px), (.i64, aD, Dx)] [⟨3, .slice ab k cb, k, (lo9).map (Value.int .i64)⟩] [])) (fun _ s9 _ => r - (intOf s9).toNat)
 case atStart => exact ⟨0, none, 0, [], Nat.zero_le _, rfl, rfl, Lib.hid rfl, F1⟩
 case round =>
  obtain ⟨k, ab, cb, lo9, hk, rfl, rfl, HG, F3⟩ := hrel
  clear F1
  obtain ⟨wo, rfl⟩ : ∃ x : World, x = wr := ⟨_, rfl⟩
  by_cases hlt : k < r
  ·skip
   have hkX : 2 + k < xs.length := by have := HX2.out; omega
   have hkXi : 2 + (k : Int) < (xs.length : Int) := by omega
   obtain ⟨bX, oX, rfl, _, hcX⟩ := (F3.out.l 0 rfl).cell (2 + k) hkX
   obtain ⟨el, hel⟩ : ∃ z, xs[2 + k]?.getD 0 = z := ⟨_, rfl⟩
   have hkK : k < ks.length := by rw [HRR.out]; exact hlt
   have hkKi : (k : Int) < (ks.length : Int) := by omega
   obtain ⟨bK, oK, rfl, _, hcK⟩ := (F3.out.l 1 rfl).cell k hkK
   obtain ⟨ek, hek⟩ : ∃ z, ks[k]?.getD 0 = z := ⟨_, rfl⟩
   have hkS : k < Sx.length := by rw [HLS.out]; exact hlt
   have hkSi : (k : Int) < (Sx.length : Int) := by omega
   obtain ⟨bS, oS, rfl, _, hcS⟩ := (F3.out.l 2 rfl).cell k hkS
   obtain ⟨es, hes⟩ : ∃ z, Sx[k]?.getD 0 = z := ⟨_, rfl⟩
   have hkP : k < Px.length := by rw [HLP.out]; exact hlt
   have hkPi : (k : Int) < (Px.length : Int) := by omega
   obtain ⟨bP, oP, rfl, _, hcP⟩ := (F3.out.l 3 rfl).cell k hkP
   obtain ⟨ep, hep⟩ : ∃ z, Px[k]?.getD 0 = z := ⟨_, rfl⟩
   have hkD : k < Dx.length := by rw [HLD.out]; exact hlt
   have hkDi : (k : Int) < (Dx.length : Int) := by omega
   obtain ⟨bD, oD, rfl, _, hcD⟩ := (F3.out.l 4 rfl).cell k hkD
   obtain ⟨ed, hed⟩ : ∃ z, Dx[k]?.getD 0 = z := ⟨_, rfl⟩
   have hes1 := (HDS.out es (by rw [← hes]; exact getD_mem hkS)).1
   have Hel := Lib.hid hel
   have Hek := Lib.hid hek
   have Hes := Lib.hid hes
   have Hep := Lib.hid hep
   have Hed := Lib.hid hed
   have hpl := fun W => placesW_any el ek es ep ed W hes1
   have HPL := Lib.hid hpl
   have HW0 := Lib.hid (show IntKind.i64.wrap (2 + (k : Int)) = 2 + (k : Int) from IntWalk.i64_in _ (by omega))
   have hkXa : 0 ≤ 2 + (k : Int) := by omega
   have hkXc : (2 + (k : Int)).toNat = 2 + k := by omega
   have hk0 : (0 : Int) ≤ (k : Int) := by omega
   clear hes1 hel hpl hek hes hep hed hcX hcK hcS hcP hcD
   go_upto_region 5 with fail
   refine wp_region_parts2 (w := wo) 26 0 none [] [(fun u _ => u = .slice (some ⟨bX, oX, none⟩) xs.length cX), (fun u _ => u = .int .i64 (k : Int)), (fun u _ => u = .int .i64 (2 + (k : Int))), (fun u _ => u = .pointer (some ⟨bX, oX + (2 + k), none⟩)), (fun u _ => u = .int .i64 el), (fun u _ => u = .slice (some ⟨bK, oK, none⟩) ks.length cK), (fun u _ => u = .int .i64 (k : Int)), (fun u _ => u = .pointer (some ⟨bK, oK + k, none⟩)), (fun u _ => u = .int .i64 ek), (fun u _ => u = .pointer (some ⟨w.heap.size, 1, none⟩)), (fun u _ => u = .slice (some ⟨bS, oS, none⟩) Sx.length cS), (fun u _ => u = .int .i64 (k : Int)), (fun u _ => u = .pointer (some ⟨bS, oS + k, none⟩)), (fun u _ => u = .int .i64 es), (fun u _ => u = .pointer (some ⟨w.heap.size, 2, none⟩)), (fun u _ => u = .slice (some ⟨bP, oP, none⟩) Px.length cP), (fun u _ => u = .int .i64 (k : Int)), (fun u _ => u = .pointer (some ⟨bP, oP + k, none⟩)), (fun u _ => u = .int .i64 ep), (fun u _ => u = .pointer (some ⟨w.heap.size, 3, none⟩)), (fun u _ => u = .slice (some ⟨bD, oD, none⟩) Dx.length cD), (fun u _ => u = .int .i64 (k : Int)), (fun u _ => u = .pointer (some ⟨bD, oD + k, none⟩)), (fun u _ => u = .int .i64 ed), (IsI), (IsI)] [some 17, some 18, some 19, some 20, some 21, some 22, some 23, some 24, some 25, some 26, some 27, some 28, some 29, some 30, some 31, some 32, some 33, some 34, some 35, some 36, some 37, some 38, some 39, some 40, some 41, some 10] #[true, true, true, true, true, true, true, true, true, true, true, true, true, true, true, true, true, true, true, true, true, true, true, true, true, true] #[true, true, true, true, true, true, true, true, true, true, true, true, true, true, true, true, true, true, true, true, true, true, true, true, true, true] (by kernel_rfl) rfl (by kernel_rfl) (by kernel_rfl) rfl (by kernel_rfl) (by kernel_rfl) (.cons (carries_eq _) (.cons (carries_eq _) (.cons (carries_eq _) (.cons (carries_eq _) (.cons (carries_eq _) (.cons (carries_eq _) (.cons (carries_eq _) (.cons (carries_eq _) (.cons (carries_eq _) (.cons (carries_eq _) (.cons (carries_eq _) (.cons (carries_eq _) (.cons (carries_eq _) (.cons (carries_eq _) (.cons (carries_eq _) (.cons (carries_eq _) (.cons (carries_eq _) (.cons (carries_eq _) (.cons (carries_eq _) (.cons (carries_eq _) (.cons (carries_eq _) (.cons (carries_eq _) (.cons (carries_eq _) (.cons (carries_eq _) (.cons (isI_carries) (.cons (isI_carries) .nil)))))))))))))))))))))))))) (fun vs b hvl hvb => ?_)
   obtain ⟨x0, x1, x2, x3, x4, x5, x6, x7, x8, x9, x10, x11, x12, x13, x14, x15, x16, x17, x18, x19, x20, x21, x22, x23, x24, x25, rfl⟩ : ∃ x0 x1 x2 x3 x4 x5 x6 x7 x8 x9 x10 x11 x12 x13 x14 x15 x16 x17 x18 x19 x20 x21 x22 x23 x24 x25, vs = [x0, x1, x2, x3, x4, x5, x6, x7, x8, x9, x10, x11, x12, x13, x14, x15, x16, x17, x18, x19, x20, x21, x22, x23, x24, x25] := lw26 hvl
   clear hvl
   simp only [putAll, Act.put, List.setIfInBounds_toArray, List.set_cons_zero, List.set_cons_succ] at hvb
   subst hvb
   refine ⟨(.snoc (.snoc (.snoc (.snoc (.snoc (.snoc (.snoc (.snoc (.snoc (.snoc (.snoc (.snoc (.snoc (.snoc (.snoc (.snoc (.snoc (.snoc (.snoc (.snoc (.snoc (.snoc (.snoc (.snoc (.snoc (.snoc .zero (PartOb.intro (d := (some 17)) (r := fun u _ => u = .slice (some ⟨bX, oX, none⟩) xs.length cX) rfl rfl rfl rfl ?po5x0)) (PartOb.intro (d := (some 18)) (r := fun u _ => u = .int .i64 (k : Int)) rfl rfl rfl rfl ?po5x1)) (PartOb.intro (d := (some 19)) (r := fun u _ => u = .int .i64 (2 + (k : Int))) rfl rfl rfl rfl ?po5x2)) (PartOb.intro (d := (some 20)) (r := fun u _ => u = .pointer (some ⟨bX, oX + (2 + k), none⟩)) rfl rfl rfl rfl ?po5x3)) (PartOb.intro (d := (some 21)) (r := fun u _ => u = .int .i64 el) rfl rfl rfl rfl ?po5x4)) (PartOb.intro (d := (some 22)) (r := fun u _ => u = .slice (some ⟨bK, oK, none⟩) ks.length cK) rfl rfl rfl rfl ?po5x5)) (PartOb.intro (d := (some 23)) (r := fun u _ => u = .int .i64 (k : Int)) rfl rfl rfl rfl ?po5x6)) (PartOb.intro (d := (some 24)) (r := fun u _ => u = .pointer (some ⟨bK, oK + k, none⟩)) rfl rfl rfl rfl ?po5x7)) (PartOb.intro (d := (some 25)) (r := fun u _ => u = .int .i64 ek) rfl rfl rfl rfl ?po5x8)) (PartOb.intro (d := (some 26)) (r := fun u _ => u = .pointer (some ⟨w.heap.size, 1, none⟩)) rfl rfl rfl rfl ?po5x9)) (PartOb.intro (d := (some 27)) (r := fun u _ => u = .slice (some ⟨bS, oS, none⟩) Sx.length cS) rfl rfl rfl rfl ?po5x10)) (PartOb.intro (d := (some 28)) (r := fun u _ => u = .int .i64 (k : Int)) rfl rfl rfl rfl ?po5x11)) (PartOb.intro (d := (some 29)) (r := fun u _ => u = .pointer (some ⟨bS, oS + k, none⟩)) rfl rfl rfl rfl ?po5x12)) (PartOb.intro (d := (some 30)) (r := fun u _ => u = .int .i64 es) rfl rfl rfl rfl ?po5x13)) (PartOb.intro (d := (some 31)) (r := fun u _ => u = .pointer (some ⟨w.heap.size, 2, none⟩)) rfl rfl rfl rfl ?po5x14)) (PartOb.intro (d := (some 32)) (r := fun u _ => u = .slice (some ⟨bP, oP, none⟩) Px.length cP) rfl rfl rfl rfl ?po5x15)) (PartOb.intro (d := (some 33)) (r := fun u _ => u = .int .i64 (k : Int)) rfl rfl rfl rfl ?po5x16)) (PartOb.intro (d := (some 34)) (r := fun u _ => u = .pointer (some ⟨bP, oP + k, none⟩)) rfl rfl rfl rfl ?po5x17)) (PartOb.intro (d := (some 35)) (r := fun u _ => u = .int .i64 ep) rfl rfl rfl rfl ?po5x18)) (PartOb.intro (d := (some 36)) (r := fun u _ => u = .pointer (some ⟨w.heap.size, 3, none⟩)) rfl rfl rfl rfl ?po5x19)) (PartOb.intro (d := (some 37)) (r := fun u _ => u = .slice (some ⟨bD, oD, none⟩) Dx.length cD) rfl rfl rfl rfl ?po5x20)) (PartOb.intro (d := (some 38)) (r := fun u _ => u = .int .i64 (k : Int)) rfl rfl rfl rfl ?po5x21)) (PartOb.intro (d := (some 39)) (r := fun u _ => u = .pointer (some ⟨bD, oD + k, none⟩)) rfl rfl rfl rfl ?po5x22)) (PartOb.intro (d := (some 40)) (r := fun u _ => u = .int .i64 ed) rfl rfl rfl rfl ?po5x23)) (PartOb.intro (d := (some 41)) (r := IsI) rfl rfl rfl rfl ?po5x24)) (PartOb.intro (d := (some 10)) (r := IsI) rfl rfl rfl rfl ?po5x25)), ?pend5, ?pfl5⟩
   case po5x0 | po5x1 | po5x5 | po5x6 | po5x9 | po5x11 | po5x14 | po5x16 | po5x19 | po5x21 =>
    intro w1 hb1 hd KK hK
    go_simp
    exact hK.out _ _ (Below.refl _ _) rfl
   case po5x2 =>
    intro w1 hb1 hd KK hK
    obtain rfl := hd 1 (by kernel_rfl)
    have dx := HW0.out
    go_simp
    exact hK.out _ _ (Below.refl _ _) rfl
   case po5x3 =>
    intro w1 hb1 hd KK hK
    obtain rfl := hd 0 (by kernel_rfl)
    obtain rfl := hd 2 (by kernel_rfl)
    go_simp
    exact hK.out _ _ (Below.refl _ _) rfl
   case po5x4 =>
    intro w1 hb1 hd KK hK
    obtain rfl := hd 3 (by kernel_rfl)
    have hF := F3.out.next hb1
    obtain ⟨b9, o9, he, _, hcx⟩ := (hF.l 0 rfl).cell (2 + k) hkX
    cases he
    rw [Hel.out] at hcx
    go_simp
    exact hK.out _ _ (Below.refl _ _) rfl
   case po5x7 =>
    intro w1 hb1 hd KK hK
    obtain rfl := hd 5 (by kernel_rfl)
    obtain rfl := hd 6 (by kernel_rfl)
    go_simp
    exact hK.out _ _ (Below.refl _ _) rfl
   case po5x8 =>
    intro w1 hb1 hd KK hK
    obtain rfl := hd 7 (by kernel_rfl)
    have hF := F3.out.next hb1
    obtain ⟨b9, o9, he, _, hcx⟩ := (hF.l 1 rfl).cell (k) hkK
    cases he
    rw [Hek.out] at hcx
    go_simp
    exact hK.out _ _ (Below.refl _ _) rfl
   case po5x10 =>
    intro w1 hb1 hd KK hK
    obtain rfl := hd 9 (by kernel_rfl)
    have hF := F3.out.next hb1
    have k0 := hF.c 0 1 rfl rfl
    go_simp
    exact hK.out _ _ (Below.refl _ _) rfl
   case po5x12 =>
    intro w1 hb1 hd KK hK
    obtain rfl := hd 10 (by kernel_rfl)
    obtain rfl := hd 11 (by kernel_rfl)
    go_simp
    exact hK.out _ _ (Below.refl _ _) rfl
   case po5x13 =>
    intro w1 hb1 hd KK hK
    obtain rfl := hd 12 (by kernel_rfl)
    have hF := F3.out.next hb1
    obtain ⟨b9, o9, he, _, hcx⟩ := (hF.l 2 rfl).cell (k) hkS
    cases he
    rw [Hes.out] at hcx
    go_simp
    exact hK.out _ _ (Below.refl _ _) rfl
   case po5x15 =>
    intro w1 hb1 hd KK hK
    obtain rfl := hd 14 (by kernel_rfl)
    have hF := F3.out.next hb1
    have k0 := hF.c 0 2 rfl rfl
    go_simp
    exact hK.out _ _ (Below.refl _ _) rfl
   case po5x17 =>
    intro w1 hb1 hd KK hK
    obtain rfl := hd 15 (by kernel_rfl)
    obtain rfl := hd 16 (by kernel_rfl)
    go_simp
    exact hK.out _ _ (Below.refl _ _) rfl
   case po5x18 =>
    intro w1 hb1 hd KK hK
    obtain rfl := hd 17 (by kernel_rfl)
    have hF := F3.out.next hb1
    obtain ⟨b9, o9, he, _, hcx⟩ := (hF.l 3 rfl).cell (k) hkP
    cases he
    rw [Hep.out] at hcx
    go_simp
    exact hK.out _ _ (Below.refl _ _) rfl
   case po5x20 =>
    intro w1 hb1 hd KK hK
    obtain rfl := hd 19 (by kernel_rfl)
    have hF := F3.out.next hb1
    have k0 := hF.c 0 3 rfl rfl
    go_simp
    exact hK.out _ _ (Below.refl _ _) rfl
   case po5x22 =>
    intro w1 hb1 hd KK hK
    obtain rfl := hd 20 (by kernel_rfl)
    obtain rfl := hd 21 (by kernel_rfl)
    go_simp
    exact hK.out _ _ (Below.refl _ _) rfl
   case po5x23 =>
    intro w1 hb1 hd KK hK
    obtain rfl := hd 22 (by kernel_rfl)
    have hF := F3.out.next hb1
    obtain ⟨b9, o9, he, _, hcx⟩ := (hF.l 4 rfl).cell (k) hkD
    cases he
    rw [Hed.out] at hcx
    go_simp
    exact hK.out _ _ (Below.refl _ _) rfl
   case po5x24 =>
    intro w1 hb1 hd KK hK
    obtain rfl := hd 4 (by kernel_rfl)
    obtain rfl := hd 8 (by kernel_rfl)
    obtain rfl := hd 13 (by kernel_rfl)
    obtain rfl := hd 18 (by kernel_rfl)
    obtain rfl := hd 23 (by kernel_rfl)
    go_simp
    go_at_call 85
    refine (HPL.out w1).mono ?_
    rintro e w2 ⟨⟨z, rfl⟩, rfl⟩
    (try go_wp2_with fail)
    exact hK.out _ _ (Below.refl _ _) ⟨_, rfl⟩
   case po5x25 =>
    intro w1 hb1 hd KK hK
    obtain rfl := hd 0 (by kernel_rfl)
    obtain rfl := hd 1 (by kernel_rfl)
    obtain rfl := hd 2 (by kernel_rfl)
    obtain rfl := hd 3 (by kernel_rfl)
    obtain rfl := hd 4 (by kernel_rfl)
    obtain rfl := hd 5 (by kernel_rfl)
    obtain rfl := hd 6 (by kernel_rfl)
    obtain rfl := hd 7 (by kernel_rfl)
    obtain rfl := hd 8 (by kernel_rfl)
    obtain rfl := hd 9 (by kernel_rfl)
    obtain rfl := hd 10 (by kernel_rfl)
    obtain rfl := hd 11 (by kernel_rfl)
    obtain rfl := hd 12 (by kernel_rfl)
    obtain rfl := hd 13 (by kernel_rfl)
    obtain rfl := hd 14 (by kernel_rfl)
    obtain rfl := hd 15 (by kernel_rfl)
    obtain rfl := hd 16 (by kernel_rfl)
    obtain rfl := hd 17 (by kernel_rfl)
    obtain rfl := hd 18 (by kernel_rfl)
    obtain rfl := hd 19 (by kernel_rfl)
    obtain rfl := hd 20 (by kernel_rfl)
    obtain rfl := hd 21 (by kernel_rfl)
    obtain rfl := hd 22 (by kernel_rfl)
    obtain rfl := hd 23 (by kernel_rfl)
    obtain ⟨z24, rfl⟩ := hd 24 (by kernel_rfl)
    go_simp
    exact hK.out _ _ (Below.refl _ _) ⟨_, rfl⟩
   case pfl5 => (intro f hf; cases hf)
   case pend5 =>
   intro w1 hb1 hR hD
   obtain rfl := hR 0 (by decide)
   obtain rfl := hR 1 (by decide)
   obtain rfl := hR 2 (by decide)
   obtain rfl := hR 3 (by decide)
   obtain rfl := hR 4 (by decide)
   obtain rfl := hR 5 (by decide)
   obtain rfl := hR 6 (by decide)
   obtain rfl := hR 7 (by decide)
   obtain rfl := hR 8 (by decide)
   obtain rfl := hR 9 (by decide)
   obtain rfl := hR 10 (by decide)
   obtain rfl := hR 11 (by decide)
   obtain rfl := hR 12 (by decide)
   obtain rfl := hR 13 (by decide)
   obtain rfl := hR 14 (by decide)
   obtain rfl := hR 15 (by decide)
   obtain rfl := hR 16 (by decide)
   obtain rfl := hR 17 (by decide)
   obtain rfl := hR 18 (by decide)
   obtain rfl := hR 19 (by decide)
   obtain rfl := hR 20 (by decide)
   obtain rfl := hR 21 (by decide)
   obtain rfl := hR 22 (by decide)
   obtain rfl := hR 23 (by decide)
   obtain ⟨z24, rfl⟩ := hR 24 (by decide)
   obtain ⟨z25, rfl⟩ := hR 25 (by decide)
   clear hR hD
   refine wpAny_done (by kernel_rfl) ?_ _
   have F4 := Lib.hid (F3.out.next hb1)
   clear hb1 F3
   obtain ⟨V3, rfl⟩ : ∃ x : World, x = w1 := ⟨_, rfl⟩
   by_cases hx0 : z25 < 1
   ·skip
    go_wp2
    go_ret2
    exact ⟨[], false, Nat.zero_le _, none, 0, rfl, (F4.out.less (List.nil_sublist _) (List.nil_sublist _) (List.nil_sublist _) (.refl _)).addNil _⟩
   ·skip
    have HKM := Lib.hid (show k ≤ 1000000 by omega)
    go_wp2_with (first | (at_builtin; refine appendI w.heap.size (.slice ab k cb) k lo9 z25 _ _ _ rfl rfl rfl (F4.out.r 0 rfl) rfl HKM.out F4.out.hlo ?_; intro v' w8 hown hbel hgr hob; obtain ⟨a8, c8, rfl, _⟩ := own_shape hown; have F8 := Lib.hid (F4.out.wroteO 0 rfl hgr hown (fun g hg => by rcases hob with h | h; exact .inl (h.symm.trans hg); exact .inr (by rw [h] at hg; injection hg with hg; omega))); simp only [List.set_cons_zero, List.set_cons_succ] at F8; clear hown hbel hgr hob F4) | fail)
    go_roundw
    case rel => exact ⟨k + 1, a8, c8, lo9 ++ [z25], by omega, by go_num, by go_num, Lib.hid (by rw [List.length_append, HG.out]; rfl), F8⟩
    case measure => simp [intOf]; omega
  ·obtain rfl : k = r := by omega
   have hlk := HRR.out
   have hkn : ¬ (k : Int) < (ks.length : Int) := by omega
   clear hlk
   go_wp2
   go_ret2
   have hg := HG.out
   refine ⟨lo9, true, by rw [hg, HRR.out]; exact Nat.le_refl _, ab, cb, by rw [hg]; rfl, ?_⟩
   rw [hg]
   exact F3.out.less (List.nil_sublist _) (List.nil_sublist _) (.refl _) (.refl _)
end Go.Proofs.YtadlnmckcnfacaaGreat
