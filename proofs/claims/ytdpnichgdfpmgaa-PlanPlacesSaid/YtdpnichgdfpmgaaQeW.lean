/- Walks: the reference's Place. -/
import Derived.Test.YtdpnichgdfpmgaaQeP
import Derived.Test.YtdpnichgdfpmgaaInv
import Derived.Test.YtdpnichgdfpmgaaTakeL
import Derived.Deep.CutRange
set_option linter.unusedVariables false
set_option linter.unusedSimpArgs false
namespace Go.Proofs.Ytdpnichgdfpmgaa
open Go.RowKit Go.Rt
attribute [local go_sem] Oper.semAt_some
theorem le12 {α : Type} {l : List α} (h : l.length = 12) : ∃ x0 x1 x2 x3 x4 x5 x6 x7 x8 x9 x10 x11, l = [x0, x1, x2, x3, x4, x5, x6, x7, x8, x9, x10, x11] := by
  match l, h with
  | [x0, x1, x2, x3, x4, x5, x6, x7, x8, x9, x10, x11], _ => exact ⟨x0, x1, x2, x3, x4, x5, x6, x7, x8, x9, x10, x11, rfl⟩
theorem le22 {α : Type} {l : List α} (h : l.length = 22) : ∃ x0 x1 x2 x3 x4 x5 x6 x7 x8 x9 x10 x11 x12 x13 x14 x15 x16 x17 x18 x19 x20 x21, l = [x0, x1, x2, x3, x4, x5, x6, x7, x8, x9, x10, x11, x12, x13, x14, x15, x16, x17, x18, x19, x20, x21] := by
  match l, h with
  | [x0, x1, x2, x3, x4, x5, x6, x7, x8, x9, x10, x11, x12, x13, x14, x15, x16, x17, x18, x19, x20, x21], _ => exact ⟨x0, x1, x2, x3, x4, x5, x6, x7, x8, x9, x10, x11, x12, x13, x14, x15, x16, x17, x18, x19, x20, x21, rfl⟩
theorem wpl_makeQ {P : Program} {w : World} {ops : Array Oper} {rest : List Oper} {o : Oper} {a : Act} {Q : Exit → Act → World → Prop} (T E : TypeId) (v0 : Value) (by0 : Nat) (hby : by0 ≤ 16) (hv : v0.cells = #[v0])
    (hinf : (P.info? E).map (fun i => (i.zero, i.size, i.bytes)) = some (some v0, 1, by0)) (hu : P.underlying T = some (.slice E))
    (base : Nat) (n : Nat) (L C : Int) (l c : Operand) (hg : o.guard = none) (hop : o.op = Op.makeSlice T l c) (hl : a.eval l = .int .i64 L) (hc : a.eval c = .int .i64 C) (hL : L = (n : Int)) (hC : C = (n : Int))
    (hn : n ≤ 17592186044416) (hb : base ≤ w.heap.size)
    (hK : ∀ w', w'.ownsRow base E 1 (.slice (some ⟨w.heap.size, 0, none⟩) n n) n (List.replicate n v0) → (∀ B, B ≤ w.heap.size → Below B w w') → w'.heap.size = w.heap.size + 1 →
      wpList P ops Q rest (a.put o.dst (.slice (some ⟨w.heap.size, 0, none⟩) n n)) w') : wpList P ops Q (o :: rest) a w := by
  obtain ⟨i, hi, hz0, hz1, hz2⟩ := info_parts hinf
  refine wpList_plain hg fun K hK' => ?_
  subst hL; subst hC
  have hmul : by0 * n ≤ 16 * n := Nat.mul_le_mul_right n hby
  have hmul2 : (by0 : Int) * (n : Int) ≤ 281474976710656 := by
    have : ((by0 * n : Nat) : Int) ≤ 281474976710656 := by omega
    rwa [Int.natCast_mul] at this
  have hr := run_make (P := P) w T E i v0 hu hi hz0 .i64 .i64 n n (by omega) (Int.le_refl _) (by rw [hz2]; exact hmul2) (by omega)
  simp only [Int.toNat_natCast, hz1, Nat.mul_one, hv] at hr
  unfold Oper.wp
  simp [execOp, hop, hl, hc, hr, Result.andThen]
  refine hK' _ _ (hK _ ?_ (fun B hB => (Below.refl _ _).alloc hB _) (by simp))
  rw [← toList_madeCells_one]
  exact World.ownsRow_lit w _ n hb (by unfold maxLen; omega) (by rw [size_madeCells, Nat.mul_one])
theorem infoBoolQ : (Try.prog.info? 4).map (fun i => (i.zero, i.size, i.bytes)) = some (some (.bool false), 1, 1) := by kernel_rfl
def RetPr (w : World) (n : Nat) (P : Nat → Buf) (peak : Int) (e : Ending) (w' : World) : Prop := ∃ p cp, e = .returned (.tuple #[.slice (some ⟨p, 0, none⟩) n cp, .int .i64 peak]) ∧ Fr w.heap.size w w' [(p, flatB4 P n)] [] [] []
theorem shape_some {W : World} {base n : Nat} {e : TypeId} {v : Value} {xs : List Value} (h : W.ownsRow base e 4 v n xs) (hn : 1 ≤ n) : ∃ g cap, v = .slice (some ⟨g, 0, none⟩) n cap := by
  obtain ⟨g, cap, e2, _⟩ := h.form (by omega)
  exact ⟨g, cap, e2⟩
set_option maxRecDepth 100000 in
set_option maxHeartbeats 4000000 in
theorem rplace_any (al : Option Addr) (c n : Nat) (L : Nat → Buf) (g : Nat → Nat) (w : World) (h : BL w w.heap.size al n L) (hn : 1 ≤ n) (ok : BufsOk L n) (og : Ord (fun i => (L i).fr) g n) :
    Calls Try.prog 6 #[.slice al n c] w (RetPr w n (PS L g n) (pkK L g n)) := by
  have hn2 := ok.1
  obtain ⟨lb, lo, rfl, _⟩ := h.cell 0 (by omega)
  have HL := Lib.hid h
  have OK := Lib.hid ok
  have OG := Lib.hid og
  have HN := Lib.hid hn
  have F1 := Lib.hid (Fr.start (w := w) (I := []) (by simp))
  clear h ok og
  go_enter Try.func6, Try.ntmps6
  go_upto_region 2 with (go_at_call 7; refine (qcopy_any _ c n L _ HL.out (by omega)).mono ?_; rintro e w2 ⟨v, rfl, hown, hb⟩; obtain ⟨p, cp, rfl⟩ := shape_some hown hn; have F2 := Lib.hid (F1.out.join2 (fr_of_own hb hown)); simp only [List.nil_append] at F2; clear hown hb F1)
  go_upto_region 3 with (at_make; (refine wpl_makeQ 38 4 (.bool false) 1 (by omega) rfl infoBoolQ Try.underlying38 w2.heap.size n _ _ _ _ rfl rfl rfl rfl rfl rfl (by omega) (Nat.le_refl _) ?_); intro w4 hown hgrow hsz4; have F4 := Lib.hid (F2.out.join2 (fr_of_own (hgrow _ (Nat.le_refl _)) hown)); clear hown hgrow F2)
  obtain ⟨d, hd⟩ : ∃ x, w2.heap.size = x := ⟨_, rfl⟩
  rw [hd] at F4 hsz4 ⊢
  simp only [List.cons_append, List.nil_append] at F4
  have hdz : (fun _ => false : Nat → Bool) = dn g 0 := by funext i; rfl
  rw [boolV_zero, hdz] at F4
  clear hsz4 hd hdz
  have hp0 : PS L g 0 = L := funext fun i => rfl
  rw [← hp0] at F4
  clear hp0
  go_wp2
  go_loopw [6, 7] (fun s6 s7 wr => ∃ r : Nat, s7 = .int .i64 (r : Nat) ∧ s6 = .int .i64 (pkK L g r) ∧ r ≤ n ∧ Hid (Fr w.heap.size w wr [(p, flatB4 (PS L g r) n), (d, boolV (dn g r) n)] [] [] [])) (fun _ s7 _ => n - (intOf s7).toNat)
  case atStart => exact ⟨0, rfl, rfl, Nat.zero_le _, F4⟩
  case round =>
    obtain ⟨r, rfl, rfl, hr, F5⟩ := hrel
    clear F4
    obtain ⟨wo, rfl⟩ : ∃ x : World, x = wr := ⟨_, rfl⟩
    by_cases hlt : r < n
    · skip
      have hri : (r : Int) < (n : Int) := by omega
      obtain ⟨PK, hPK⟩ : ∃ z, pkK L g r = z := ⟨_, rfl⟩
      have hpkb := pkK_bd OG.out OK.out r (by omega)
      rw [hPK] at hpkb ⊢
      have HPK := Lib.hid hPK
      clear hPK
      go_wp2
      go_loopw [8, 9] (fun s8 s9 wr => ∃ (k : Nat) (a : Int), s9 = .int .i64 (k : Nat) ∧ s8 = .int .i64 a ∧ k ≤ n ∧ Hid (NextAt L g r k a) ∧ Hid (Fr w.heap.size w wr [(p, flatB4 (PS L g r) n), (d, boolV (dn g r) n)] [] [] [])) (fun _ s9 _ => n - (intOf s9).toNat)
      case atStart => exact ⟨0, -1, rfl, rfl, Nat.zero_le _, Lib.hid NextAt.start, F5⟩
      case round =>
        obtain ⟨k, a, rfl, rfl, hk, HA, F6⟩ := hrel
        clear F5
        obtain ⟨wi, rfl⟩ : ∃ x : World, x = wr := ⟨_, rfl⟩
        by_cases hkl : k < n
        · skip
          have hki : (k : Int) < (n : Int) := by omega
          have HKL := Lib.hid hkl
          obtain ⟨dk, hdk⟩ : ∃ z, dn g r k = z := ⟨_, rfl⟩
          have HDK := Lib.hid hdk
          clear hdk
          go_upto_region 11 with fail
          cases dk with
          | true =>
            refine wp_region_inv (w := wi) 22 (fun _ _ => True) (fun _ W => Fr w.heap.size w W [(p, flatB4 (PS L g r) n), (d, boolV (dn g r) n)] [] [] []) [] [(fun u _ => u = .slice (some ⟨d, 0, none⟩) n n), (fun u _ => u = .int .i64 (k : Int)), (fun u _ => u = .pointer (some ⟨d, k, none⟩)), (fun u _ => u = .bool true), (fun u _ => u = .bool false), (fun u _ => u = .bool false), (fun u _ => u = undef), (fun u _ => u = undef), (fun u _ => u = undef), (fun u _ => u = undef), (fun u _ => u = undef), (fun u _ => u = undef), (fun u _ => u = undef), (fun u _ => u = undef), (fun u _ => u = undef), (fun u _ => u = undef), (fun u _ => u = undef), (fun u _ => u = undef), (fun u _ => u = undef), (fun u _ => u = undef), (fun u _ => u = undef), (fun u _ => u = .bool false)] [some 30, some 31, some 32, some 33, some 34, some 35, some 36, some 37, some 38, some 39, some 40, some 41, some 42, some 43, some 44, some 45, some 46, some 47, some 48, some 49, some 50, some 51] (by kernel_rfl) (by kernel_rfl) rfl (by kernel_rfl) (by kernel_rfl) (by decide) (by decide) (fun _ _ => trivial) trivial F6.out.drew (BorneAll.at (.cons (borne_eq _) (.cons (borne_eq _) (.cons (borne_eq _) (.cons (borne_eq _) (.cons (borne_eq _) (.cons (borne_eq _) (.cons (borne_eq _) (.cons (borne_eq _) (.cons (borne_eq _) (.cons (borne_eq _) (.cons (borne_eq _) (.cons (borne_eq _) (.cons (borne_eq _) (.cons (borne_eq _) (.cons (borne_eq _) (.cons (borne_eq _) (.cons (borne_eq _) (.cons (borne_eq _) (.cons (borne_eq _) (.cons (borne_eq _) (.cons (borne_eq _) (.cons (borne_eq _) .nil))))))))))))))))))))))) (fun vs b hvl hvb => ?_)
            obtain ⟨x0, x1, x2, x3, x4, x5, x6, x7, x8, x9, x10, x11, x12, x13, x14, x15, x16, x17, x18, x19, x20, x21, rfl⟩ : ∃ x0 x1 x2 x3 x4 x5 x6 x7 x8 x9 x10 x11 x12 x13 x14 x15 x16 x17 x18 x19 x20 x21, vs = [x0, x1, x2, x3, x4, x5, x6, x7, x8, x9, x10, x11, x12, x13, x14, x15, x16, x17, x18, x19, x20, x21] := le22 hvl
            clear hvl
            simp only [putAll, Act.put, List.setIfInBounds_toArray, List.set_cons_zero, List.set_cons_succ] at hvb
            subst hvb
            refine ⟨(.snoc (.snoc (.snoc (.snoc (.snoc (.snoc (.snoc (.snoc (.snoc (.snoc (.snoc (.snoc (.snoc (.snoc (.snoc (.snoc (.snoc (.snoc (.snoc (.snoc (.snoc (.snoc .zero (InvOb.intro (d := (some 30)) (r := fun u _ => u = .slice (some ⟨d, 0, none⟩) n n) 0 0 rfl rfl rfl (by kernel_rfl) (by kernel_rfl) rfl ?io11n0x0)) (InvOb.intro (d := (some 31)) (r := fun u _ => u = .int .i64 (k : Int)) 0 0 rfl rfl rfl (by kernel_rfl) (by kernel_rfl) rfl ?io11n0x1)) (InvOb.intro (d := (some 32)) (r := fun u _ => u = .pointer (some ⟨d, k, none⟩)) 0 0 rfl rfl rfl (by kernel_rfl) (by kernel_rfl) rfl ?io11n0x2)) (InvOb.intro (d := (some 33)) (r := fun u _ => u = .bool true) 0 0 rfl rfl rfl (by kernel_rfl) (by kernel_rfl) rfl ?io11n0x3)) (InvOb.intro (d := (some 34)) (r := fun u _ => u = .bool false) 0 0 rfl rfl rfl (by kernel_rfl) (by kernel_rfl) rfl ?io11n0x4)) (InvOb.intro (d := (some 35)) (r := fun u _ => u = .bool false) 0 0 rfl rfl rfl (by kernel_rfl) (by kernel_rfl) rfl ?io11n0x5)) (InvOb.intro (d := (some 36)) (r := fun u _ => u = undef) 0 0 rfl rfl rfl (by kernel_rfl) (by kernel_rfl) rfl ?io11n0x6)) (InvOb.intro (d := (some 37)) (r := fun u _ => u = undef) 0 0 rfl rfl rfl (by kernel_rfl) (by kernel_rfl) rfl ?io11n0x7)) (InvOb.intro (d := (some 38)) (r := fun u _ => u = undef) 0 0 rfl rfl rfl (by kernel_rfl) (by kernel_rfl) rfl ?io11n0x8)) (InvOb.intro (d := (some 39)) (r := fun u _ => u = undef) 0 0 rfl rfl rfl (by kernel_rfl) (by kernel_rfl) rfl ?io11n0x9)) (InvOb.intro (d := (some 40)) (r := fun u _ => u = undef) 0 0 rfl rfl rfl (by kernel_rfl) (by kernel_rfl) rfl ?io11n0x10)) (InvOb.intro (d := (some 41)) (r := fun u _ => u = undef) 0 0 rfl rfl rfl (by kernel_rfl) (by kernel_rfl) rfl ?io11n0x11)) (InvOb.intro (d := (some 42)) (r := fun u _ => u = undef) 0 0 rfl rfl rfl (by kernel_rfl) (by kernel_rfl) rfl ?io11n0x12)) (InvOb.intro (d := (some 43)) (r := fun u _ => u = undef) 0 0 rfl rfl rfl (by kernel_rfl) (by kernel_rfl) rfl ?io11n0x13)) (InvOb.intro (d := (some 44)) (r := fun u _ => u = undef) 0 0 rfl rfl rfl (by kernel_rfl) (by kernel_rfl) rfl ?io11n0x14)) (InvOb.intro (d := (some 45)) (r := fun u _ => u = undef) 0 0 rfl rfl rfl (by kernel_rfl) (by kernel_rfl) rfl ?io11n0x15)) (InvOb.intro (d := (some 46)) (r := fun u _ => u = undef) 0 0 rfl rfl rfl (by kernel_rfl) (by kernel_rfl) rfl ?io11n0x16)) (InvOb.intro (d := (some 47)) (r := fun u _ => u = undef) 0 0 rfl rfl rfl (by kernel_rfl) (by kernel_rfl) rfl ?io11n0x17)) (InvOb.intro (d := (some 48)) (r := fun u _ => u = undef) 0 0 rfl rfl rfl (by kernel_rfl) (by kernel_rfl) rfl ?io11n0x18)) (InvOb.intro (d := (some 49)) (r := fun u _ => u = undef) 0 0 rfl rfl rfl (by kernel_rfl) (by kernel_rfl) rfl ?io11n0x19)) (InvOb.intro (d := (some 50)) (r := fun u _ => u = undef) 0 0 rfl rfl rfl (by kernel_rfl) (by kernel_rfl) rfl ?io11n0x20)) (InvOb.intro (d := (some 51)) (r := fun u _ => u = .bool false) 0 0 rfl rfl rfl (by kernel_rfl) (by kernel_rfl) rfl ?io11n0x21)), ?iend11n0⟩
            case io11n0x0 =>
              intro k1 w1 hk0 hk1 hb1 hS hd KK hK
              clear hd
              simp only [Act.put, List.setIfInBounds_toArray, List.set_cons_zero, List.set_cons_succ] at hK
              go_simp
              first | exact hK.out _ _ trivial hS rfl | (have hk := hK.out _ _ trivial hS rfl; revert hk; go_simp)
            case io11n0x1 =>
              intro k1 w1 hk0 hk1 hb1 hS hd KK hK
              clear hd
              simp only [Act.put, List.setIfInBounds_toArray, List.set_cons_zero, List.set_cons_succ] at hK
              go_simp
              first | exact hK.out _ _ trivial hS rfl | (have hk := hK.out _ _ trivial hS rfl; revert hk; go_simp)
            case io11n0x2 =>
              intro k1 w1 hk0 hk1 hb1 hS hd KK hK
              have d0 : x0 = .slice (some ⟨d, 0, none⟩) n n := hd 0 (by kernel_rfl)
              have d1 : x1 = .int .i64 (k : Int) := hd 1 (by kernel_rfl)
              clear hd
              subst d0
              subst d1
              have g1 := hki
              simp only [Act.put, List.setIfInBounds_toArray, List.set_cons_zero, List.set_cons_succ] at hK
              go_simp
              first | exact hK.out _ _ trivial hS rfl | (have hk := hK.out _ _ trivial hS rfl; revert hk; go_simp)
            case io11n0x3 =>
              intro k1 w1 hk0 hk1 hb1 hS hd KK hK
              have d2 : x2 = .pointer (some ⟨d, k, none⟩) := hd 2 (by kernel_rfl)
              clear hd
              subst d2
              have k0 := (hS.c 1 k rfl (boolV_get _ HKL.out))
              rw [HDK.out] at k0
              simp only [Act.put, List.setIfInBounds_toArray, List.set_cons_zero, List.set_cons_succ] at hK
              go_simp
              first | exact hK.out _ _ trivial hS rfl | (have hk := hK.out _ _ trivial hS rfl; revert hk; go_simp)
            case io11n0x4 =>
              intro k1 w1 hk0 hk1 hb1 hS hd KK hK
              have d3 : x3 = .bool true := hd 3 (by kernel_rfl)
              clear hd
              subst d3
              simp only [Act.put, List.setIfInBounds_toArray, List.set_cons_zero, List.set_cons_succ] at hK
              go_simp
              first | exact hK.out _ _ trivial hS rfl | (have hk := hK.out _ _ trivial hS rfl; revert hk; go_simp)
            case io11n0x5 =>
              intro k1 w1 hk0 hk1 hb1 hS hd KK hK
              have d4 : x4 = .bool false := hd 4 (by kernel_rfl)
              clear hd
              subst d4
              simp only [Act.put, List.setIfInBounds_toArray, List.set_cons_zero, List.set_cons_succ] at hK
              go_simp
              first | exact hK.out _ _ trivial hS rfl | (have hk := hK.out _ _ trivial hS rfl; revert hk; go_simp)
            case io11n0x6 =>
              intro k1 w1 hk0 hk1 hb1 hS hd KK hK
              have d5 : x5 = .bool false := hd 5 (by kernel_rfl)
              clear hd
              subst d5
              simp only [Act.put, List.setIfInBounds_toArray, List.set_cons_zero, List.set_cons_succ] at hK
              go_simp
              first | exact hK.out _ _ trivial hS rfl | (have hk := hK.out _ _ trivial hS rfl; revert hk; go_simp)
            case io11n0x7 =>
              intro k1 w1 hk0 hk1 hb1 hS hd KK hK
              have d5 : x5 = .bool false := hd 5 (by kernel_rfl)
              have d6 : x6 = undef := hd 6 (by kernel_rfl)
              clear hd
              subst d5
              subst d6
              simp only [Act.put, List.setIfInBounds_toArray, List.set_cons_zero, List.set_cons_succ] at hK
              go_simp
              first | exact hK.out _ _ trivial hS rfl | (have hk := hK.out _ _ trivial hS rfl; revert hk; go_simp)
            case io11n0x8 =>
              intro k1 w1 hk0 hk1 hb1 hS hd KK hK
              have d5 : x5 = .bool false := hd 5 (by kernel_rfl)
              have d7 : x7 = undef := hd 7 (by kernel_rfl)
              clear hd
              subst d5
              subst d7
              simp only [Act.put, List.setIfInBounds_toArray, List.set_cons_zero, List.set_cons_succ] at hK
              go_simp
              first | exact hK.out _ _ trivial hS rfl | (have hk := hK.out _ _ trivial hS rfl; revert hk; go_simp)
            case io11n0x9 =>
              intro k1 w1 hk0 hk1 hb1 hS hd KK hK
              have d8 : x8 = undef := hd 8 (by kernel_rfl)
              clear hd
              subst d8
              simp only [Act.put, List.setIfInBounds_toArray, List.set_cons_zero, List.set_cons_succ] at hK
              go_simp
              first | exact hK.out _ _ trivial hS rfl | (have hk := hK.out _ _ trivial hS rfl; revert hk; go_simp)
            case io11n0x10 =>
              intro k1 w1 hk0 hk1 hb1 hS hd KK hK
              have d8 : x8 = undef := hd 8 (by kernel_rfl)
              clear hd
              subst d8
              simp only [Act.put, List.setIfInBounds_toArray, List.set_cons_zero, List.set_cons_succ] at hK
              go_simp
              first | exact hK.out _ _ trivial hS rfl | (have hk := hK.out _ _ trivial hS rfl; revert hk; go_simp)
            case io11n0x11 =>
              intro k1 w1 hk0 hk1 hb1 hS hd KK hK
              have d8 : x8 = undef := hd 8 (by kernel_rfl)
              have d9 : x9 = undef := hd 9 (by kernel_rfl)
              have d10 : x10 = undef := hd 10 (by kernel_rfl)
              clear hd
              subst d8
              subst d9
              subst d10
              simp only [Act.put, List.setIfInBounds_toArray, List.set_cons_zero, List.set_cons_succ] at hK
              go_simp
              first | exact hK.out _ _ trivial hS rfl | (have hk := hK.out _ _ trivial hS rfl; revert hk; go_simp)
            case io11n0x12 =>
              intro k1 w1 hk0 hk1 hb1 hS hd KK hK
              have d8 : x8 = undef := hd 8 (by kernel_rfl)
              have d11 : x11 = undef := hd 11 (by kernel_rfl)
              clear hd
              subst d8
              subst d11
              simp only [Act.put, List.setIfInBounds_toArray, List.set_cons_zero, List.set_cons_succ] at hK
              go_simp
              first | exact hK.out _ _ trivial hS rfl | (have hk := hK.out _ _ trivial hS rfl; revert hk; go_simp)
            case io11n0x13 =>
              intro k1 w1 hk0 hk1 hb1 hS hd KK hK
              have d8 : x8 = undef := hd 8 (by kernel_rfl)
              have d12 : x12 = undef := hd 12 (by kernel_rfl)
              clear hd
              subst d8
              subst d12
              simp only [Act.put, List.setIfInBounds_toArray, List.set_cons_zero, List.set_cons_succ] at hK
              go_simp
              first | exact hK.out _ _ trivial hS rfl | (have hk := hK.out _ _ trivial hS rfl; revert hk; go_simp)
            case io11n0x14 =>
              intro k1 w1 hk0 hk1 hb1 hS hd KK hK
              have d8 : x8 = undef := hd 8 (by kernel_rfl)
              clear hd
              subst d8
              simp only [Act.put, List.setIfInBounds_toArray, List.set_cons_zero, List.set_cons_succ] at hK
              go_simp
              first | exact hK.out _ _ trivial hS rfl | (have hk := hK.out _ _ trivial hS rfl; revert hk; go_simp)
            case io11n0x15 =>
              intro k1 w1 hk0 hk1 hb1 hS hd KK hK
              have d8 : x8 = undef := hd 8 (by kernel_rfl)
              clear hd
              subst d8
              simp only [Act.put, List.setIfInBounds_toArray, List.set_cons_zero, List.set_cons_succ] at hK
              go_simp
              first | exact hK.out _ _ trivial hS rfl | (have hk := hK.out _ _ trivial hS rfl; revert hk; go_simp)
            case io11n0x16 =>
              intro k1 w1 hk0 hk1 hb1 hS hd KK hK
              have d8 : x8 = undef := hd 8 (by kernel_rfl)
              have d14 : x14 = undef := hd 14 (by kernel_rfl)
              have d15 : x15 = undef := hd 15 (by kernel_rfl)
              clear hd
              subst d8
              subst d14
              subst d15
              simp only [Act.put, List.setIfInBounds_toArray, List.set_cons_zero, List.set_cons_succ] at hK
              go_simp
              first | exact hK.out _ _ trivial hS rfl | (have hk := hK.out _ _ trivial hS rfl; revert hk; go_simp)
            case io11n0x17 =>
              intro k1 w1 hk0 hk1 hb1 hS hd KK hK
              have d8 : x8 = undef := hd 8 (by kernel_rfl)
              have d16 : x16 = undef := hd 16 (by kernel_rfl)
              clear hd
              subst d8
              subst d16
              simp only [Act.put, List.setIfInBounds_toArray, List.set_cons_zero, List.set_cons_succ] at hK
              go_simp
              first | exact hK.out _ _ trivial hS rfl | (have hk := hK.out _ _ trivial hS rfl; revert hk; go_simp)
            case io11n0x18 =>
              intro k1 w1 hk0 hk1 hb1 hS hd KK hK
              have d8 : x8 = undef := hd 8 (by kernel_rfl)
              have d17 : x17 = undef := hd 17 (by kernel_rfl)
              clear hd
              subst d8
              subst d17
              simp only [Act.put, List.setIfInBounds_toArray, List.set_cons_zero, List.set_cons_succ] at hK
              go_simp
              first | exact hK.out _ _ trivial hS rfl | (have hk := hK.out _ _ trivial hS rfl; revert hk; go_simp)
            case io11n0x19 =>
              intro k1 w1 hk0 hk1 hb1 hS hd KK hK
              have d8 : x8 = undef := hd 8 (by kernel_rfl)
              have d13 : x13 = undef := hd 13 (by kernel_rfl)
              have d18 : x18 = undef := hd 18 (by kernel_rfl)
              clear hd
              subst d8
              subst d13
              subst d18
              simp only [Act.put, List.setIfInBounds_toArray, List.set_cons_zero, List.set_cons_succ] at hK
              go_simp
              first | exact hK.out _ _ trivial hS rfl | (have hk := hK.out _ _ trivial hS rfl; revert hk; go_simp)
            case io11n0x20 =>
              intro k1 w1 hk0 hk1 hb1 hS hd KK hK
              have d5 : x5 = .bool false := hd 5 (by kernel_rfl)
              have d8 : x8 = undef := hd 8 (by kernel_rfl)
              have d19 : x19 = undef := hd 19 (by kernel_rfl)
              clear hd
              subst d5
              subst d8
              subst d19
              simp only [Act.put, List.setIfInBounds_toArray, List.set_cons_zero, List.set_cons_succ] at hK
              go_simp
              first | exact hK.out _ _ trivial hS rfl | (have hk := hK.out _ _ trivial hS rfl; revert hk; go_simp)
            case io11n0x21 =>
              intro k1 w1 hk0 hk1 hb1 hS hd KK hK
              have d5 : x5 = .bool false := hd 5 (by kernel_rfl)
              have d20 : x20 = undef := hd 20 (by kernel_rfl)
              clear hd
              subst d5
              subst d20
              simp only [Act.put, List.setIfInBounds_toArray, List.set_cons_zero, List.set_cons_succ] at hK
              go_simp
              first | exact hK.out _ _ trivial hS rfl | (have hk := hK.out _ _ trivial hS rfl; revert hk; go_simp)
            case iend11n0 =>
              intro w1 hb1 hS hR
              have d0 : x0 = .slice (some ⟨d, 0, none⟩) n n := hR 0 (by decide)
              have d1 : x1 = .int .i64 (k : Int) := hR 1 (by decide)
              have d2 : x2 = .pointer (some ⟨d, k, none⟩) := hR 2 (by decide)
              have d3 : x3 = .bool true := hR 3 (by decide)
              have d4 : x4 = .bool false := hR 4 (by decide)
              have d5 : x5 = .bool false := hR 5 (by decide)
              have d6 : x6 = undef := hR 6 (by decide)
              have d7 : x7 = undef := hR 7 (by decide)
              have d8 : x8 = undef := hR 8 (by decide)
              have d9 : x9 = undef := hR 9 (by decide)
              have d10 : x10 = undef := hR 10 (by decide)
              have d11 : x11 = undef := hR 11 (by decide)
              have d12 : x12 = undef := hR 12 (by decide)
              have d13 : x13 = undef := hR 13 (by decide)
              have d14 : x14 = undef := hR 14 (by decide)
              have d15 : x15 = undef := hR 15 (by decide)
              have d16 : x16 = undef := hR 16 (by decide)
              have d17 : x17 = undef := hR 17 (by decide)
              have d18 : x18 = undef := hR 18 (by decide)
              have d19 : x19 = undef := hR 19 (by decide)
              have d20 : x20 = undef := hR 20 (by decide)
              have d21 : x21 = .bool false := hR 21 (by decide)
              clear hR
              subst d0
              subst d1
              subst d2
              subst d3
              subst d4
              subst d5
              subst d6
              subst d7
              subst d8
              subst d9
              subst d10
              subst d11
              subst d12
              subst d13
              subst d14
              subst d15
              subst d16
              subst d17
              subst d18
              subst d19
              subst d20
              subst d21
              try simp only [putAll, Act.put, List.setIfInBounds_toArray, List.set_cons_zero, List.set_cons_succ]
              have F7 := Lib.hid hS
              clear hS hb1 F6
              have HA2 := Lib.hid (HA.out.skip HDK.out)
              go_wp2
              go_roundw
              case rel => exact ⟨k + 1, a, by first | rfl | go_num, rfl, by omega, HA2, F7⟩
              case measure => (simp only [intOf]; omega)
          | false =>
            rcases HA.out.nat with ha | ⟨a1, ha, ha2⟩
            · subst ha
              refine wp_region_inv (w := wi) 22 (fun _ _ => True) (fun _ W => Fr w.heap.size w W [(p, flatB4 (PS L g r) n), (d, boolV (dn g r) n)] [] [] []) [] [(fun u _ => u = .slice (some ⟨d, 0, none⟩) n n), (fun u _ => u = .int .i64 (k : Int)), (fun u _ => u = .pointer (some ⟨d, k, none⟩)), (fun u _ => u = .bool false), (fun u _ => u = .bool true), (fun u _ => u = .bool true), (fun u _ => u = .int .i64 (-1)), (fun u _ => u = .bool true), (fun u _ => u = .bool true), (fun u _ => u = undef), (fun u _ => u = undef), (fun u _ => u = undef), (fun u _ => u = undef), (fun u _ => u = undef), (fun u _ => u = undef), (fun u _ => u = undef), (fun u _ => u = undef), (fun u _ => u = undef), (fun u _ => u = undef), (fun u _ => u = undef), (fun u _ => u = .bool true), (fun u _ => u = .bool true)] [some 30, some 31, some 32, some 33, some 34, some 35, some 36, some 37, some 38, some 39, some 40, some 41, some 42, some 43, some 44, some 45, some 46, some 47, some 48, some 49, some 50, some 51] (by kernel_rfl) (by kernel_rfl) rfl (by kernel_rfl) (by kernel_rfl) (by decide) (by decide) (fun _ _ => trivial) trivial F6.out.drew (BorneAll.at (.cons (borne_eq _) (.cons (borne_eq _) (.cons (borne_eq _) (.cons (borne_eq _) (.cons (borne_eq _) (.cons (borne_eq _) (.cons (borne_eq _) (.cons (borne_eq _) (.cons (borne_eq _) (.cons (borne_eq _) (.cons (borne_eq _) (.cons (borne_eq _) (.cons (borne_eq _) (.cons (borne_eq _) (.cons (borne_eq _) (.cons (borne_eq _) (.cons (borne_eq _) (.cons (borne_eq _) (.cons (borne_eq _) (.cons (borne_eq _) (.cons (borne_eq _) (.cons (borne_eq _) .nil))))))))))))))))))))))) (fun vs b hvl hvb => ?_)
              obtain ⟨x0, x1, x2, x3, x4, x5, x6, x7, x8, x9, x10, x11, x12, x13, x14, x15, x16, x17, x18, x19, x20, x21, rfl⟩ : ∃ x0 x1 x2 x3 x4 x5 x6 x7 x8 x9 x10 x11 x12 x13 x14 x15 x16 x17 x18 x19 x20 x21, vs = [x0, x1, x2, x3, x4, x5, x6, x7, x8, x9, x10, x11, x12, x13, x14, x15, x16, x17, x18, x19, x20, x21] := le22 hvl
              clear hvl
              simp only [putAll, Act.put, List.setIfInBounds_toArray, List.set_cons_zero, List.set_cons_succ] at hvb
              subst hvb
              refine ⟨(.snoc (.snoc (.snoc (.snoc (.snoc (.snoc (.snoc (.snoc (.snoc (.snoc (.snoc (.snoc (.snoc (.snoc (.snoc (.snoc (.snoc (.snoc (.snoc (.snoc (.snoc (.snoc .zero (InvOb.intro (d := (some 30)) (r := fun u _ => u = .slice (some ⟨d, 0, none⟩) n n) 0 0 rfl rfl rfl (by kernel_rfl) (by kernel_rfl) rfl ?io11n1x0)) (InvOb.intro (d := (some 31)) (r := fun u _ => u = .int .i64 (k : Int)) 0 0 rfl rfl rfl (by kernel_rfl) (by kernel_rfl) rfl ?io11n1x1)) (InvOb.intro (d := (some 32)) (r := fun u _ => u = .pointer (some ⟨d, k, none⟩)) 0 0 rfl rfl rfl (by kernel_rfl) (by kernel_rfl) rfl ?io11n1x2)) (InvOb.intro (d := (some 33)) (r := fun u _ => u = .bool false) 0 0 rfl rfl rfl (by kernel_rfl) (by kernel_rfl) rfl ?io11n1x3)) (InvOb.intro (d := (some 34)) (r := fun u _ => u = .bool true) 0 0 rfl rfl rfl (by kernel_rfl) (by kernel_rfl) rfl ?io11n1x4)) (InvOb.intro (d := (some 35)) (r := fun u _ => u = .bool true) 0 0 rfl rfl rfl (by kernel_rfl) (by kernel_rfl) rfl ?io11n1x5)) (InvOb.intro (d := (some 36)) (r := fun u _ => u = .int .i64 (-1)) 0 0 rfl rfl rfl (by kernel_rfl) (by kernel_rfl) rfl ?io11n1x6)) (InvOb.intro (d := (some 37)) (r := fun u _ => u = .bool true) 0 0 rfl rfl rfl (by kernel_rfl) (by kernel_rfl) rfl ?io11n1x7)) (InvOb.intro (d := (some 38)) (r := fun u _ => u = .bool true) 0 0 rfl rfl rfl (by kernel_rfl) (by kernel_rfl) rfl ?io11n1x8)) (InvOb.intro (d := (some 39)) (r := fun u _ => u = undef) 0 0 rfl rfl rfl (by kernel_rfl) (by kernel_rfl) rfl ?io11n1x9)) (InvOb.intro (d := (some 40)) (r := fun u _ => u = undef) 0 0 rfl rfl rfl (by kernel_rfl) (by kernel_rfl) rfl ?io11n1x10)) (InvOb.intro (d := (some 41)) (r := fun u _ => u = undef) 0 0 rfl rfl rfl (by kernel_rfl) (by kernel_rfl) rfl ?io11n1x11)) (InvOb.intro (d := (some 42)) (r := fun u _ => u = undef) 0 0 rfl rfl rfl (by kernel_rfl) (by kernel_rfl) rfl ?io11n1x12)) (InvOb.intro (d := (some 43)) (r := fun u _ => u = undef) 0 0 rfl rfl rfl (by kernel_rfl) (by kernel_rfl) rfl ?io11n1x13)) (InvOb.intro (d := (some 44)) (r := fun u _ => u = undef) 0 0 rfl rfl rfl (by kernel_rfl) (by kernel_rfl) rfl ?io11n1x14)) (InvOb.intro (d := (some 45)) (r := fun u _ => u = undef) 0 0 rfl rfl rfl (by kernel_rfl) (by kernel_rfl) rfl ?io11n1x15)) (InvOb.intro (d := (some 46)) (r := fun u _ => u = undef) 0 0 rfl rfl rfl (by kernel_rfl) (by kernel_rfl) rfl ?io11n1x16)) (InvOb.intro (d := (some 47)) (r := fun u _ => u = undef) 0 0 rfl rfl rfl (by kernel_rfl) (by kernel_rfl) rfl ?io11n1x17)) (InvOb.intro (d := (some 48)) (r := fun u _ => u = undef) 0 0 rfl rfl rfl (by kernel_rfl) (by kernel_rfl) rfl ?io11n1x18)) (InvOb.intro (d := (some 49)) (r := fun u _ => u = undef) 0 0 rfl rfl rfl (by kernel_rfl) (by kernel_rfl) rfl ?io11n1x19)) (InvOb.intro (d := (some 50)) (r := fun u _ => u = .bool true) 0 0 rfl rfl rfl (by kernel_rfl) (by kernel_rfl) rfl ?io11n1x20)) (InvOb.intro (d := (some 51)) (r := fun u _ => u = .bool true) 0 0 rfl rfl rfl (by kernel_rfl) (by kernel_rfl) rfl ?io11n1x21)), ?iend11n1⟩
              case io11n1x0 =>
                intro k1 w1 hk0 hk1 hb1 hS hd KK hK
                clear hd
                simp only [Act.put, List.setIfInBounds_toArray, List.set_cons_zero, List.set_cons_succ] at hK
                go_simp
                first | exact hK.out _ _ trivial hS rfl | (have hk := hK.out _ _ trivial hS rfl; revert hk; go_simp)
              case io11n1x1 =>
                intro k1 w1 hk0 hk1 hb1 hS hd KK hK
                clear hd
                simp only [Act.put, List.setIfInBounds_toArray, List.set_cons_zero, List.set_cons_succ] at hK
                go_simp
                first | exact hK.out _ _ trivial hS rfl | (have hk := hK.out _ _ trivial hS rfl; revert hk; go_simp)
              case io11n1x2 =>
                intro k1 w1 hk0 hk1 hb1 hS hd KK hK
                have d0 : x0 = .slice (some ⟨d, 0, none⟩) n n := hd 0 (by kernel_rfl)
                have d1 : x1 = .int .i64 (k : Int) := hd 1 (by kernel_rfl)
                clear hd
                subst d0
                subst d1
                have g1 := hki
                simp only [Act.put, List.setIfInBounds_toArray, List.set_cons_zero, List.set_cons_succ] at hK
                go_simp
                first | exact hK.out _ _ trivial hS rfl | (have hk := hK.out _ _ trivial hS rfl; revert hk; go_simp)
              case io11n1x3 =>
                intro k1 w1 hk0 hk1 hb1 hS hd KK hK
                have d2 : x2 = .pointer (some ⟨d, k, none⟩) := hd 2 (by kernel_rfl)
                clear hd
                subst d2
                have k0 := (hS.c 1 k rfl (boolV_get _ HKL.out))
                rw [HDK.out] at k0
                simp only [Act.put, List.setIfInBounds_toArray, List.set_cons_zero, List.set_cons_succ] at hK
                go_simp
                first | exact hK.out _ _ trivial hS rfl | (have hk := hK.out _ _ trivial hS rfl; revert hk; go_simp)
              case io11n1x4 =>
                intro k1 w1 hk0 hk1 hb1 hS hd KK hK
                have d3 : x3 = .bool false := hd 3 (by kernel_rfl)
                clear hd
                subst d3
                simp only [Act.put, List.setIfInBounds_toArray, List.set_cons_zero, List.set_cons_succ] at hK
                go_simp
                first | exact hK.out _ _ trivial hS rfl | (have hk := hK.out _ _ trivial hS rfl; revert hk; go_simp)
              case io11n1x5 =>
                intro k1 w1 hk0 hk1 hb1 hS hd KK hK
                have d4 : x4 = .bool true := hd 4 (by kernel_rfl)
                clear hd
                subst d4
                simp only [Act.put, List.setIfInBounds_toArray, List.set_cons_zero, List.set_cons_succ] at hK
                go_simp
                first | exact hK.out _ _ trivial hS rfl | (have hk := hK.out _ _ trivial hS rfl; revert hk; go_simp)
              case io11n1x6 =>
                intro k1 w1 hk0 hk1 hb1 hS hd KK hK
                have d5 : x5 = .bool true := hd 5 (by kernel_rfl)
                clear hd
                subst d5
                simp only [Act.put, List.setIfInBounds_toArray, List.set_cons_zero, List.set_cons_succ] at hK
                go_simp
                first | exact hK.out _ _ trivial hS rfl | (have hk := hK.out _ _ trivial hS rfl; revert hk; go_simp)
              case io11n1x7 =>
                intro k1 w1 hk0 hk1 hb1 hS hd KK hK
                have d5 : x5 = .bool true := hd 5 (by kernel_rfl)
                have d6 : x6 = .int .i64 (-1) := hd 6 (by kernel_rfl)
                clear hd
                subst d5
                subst d6
                simp only [Act.put, List.setIfInBounds_toArray, List.set_cons_zero, List.set_cons_succ] at hK
                go_simp
                first | exact hK.out _ _ trivial hS rfl | (have hk := hK.out _ _ trivial hS rfl; revert hk; go_simp)
              case io11n1x8 =>
                intro k1 w1 hk0 hk1 hb1 hS hd KK hK
                have d5 : x5 = .bool true := hd 5 (by kernel_rfl)
                have d7 : x7 = .bool true := hd 7 (by kernel_rfl)
                clear hd
                subst d5
                subst d7
                simp only [Act.put, List.setIfInBounds_toArray, List.set_cons_zero, List.set_cons_succ] at hK
                go_simp
                first | exact hK.out _ _ trivial hS rfl | (have hk := hK.out _ _ trivial hS rfl; revert hk; go_simp)
              case io11n1x9 =>
                intro k1 w1 hk0 hk1 hb1 hS hd KK hK
                have d8 : x8 = .bool true := hd 8 (by kernel_rfl)
                clear hd
                subst d8
                simp only [Act.put, List.setIfInBounds_toArray, List.set_cons_zero, List.set_cons_succ] at hK
                go_simp
                first | exact hK.out _ _ trivial hS rfl | (have hk := hK.out _ _ trivial hS rfl; revert hk; go_simp)
              case io11n1x10 =>
                intro k1 w1 hk0 hk1 hb1 hS hd KK hK
                have d8 : x8 = .bool true := hd 8 (by kernel_rfl)
                clear hd
                subst d8
                simp only [Act.put, List.setIfInBounds_toArray, List.set_cons_zero, List.set_cons_succ] at hK
                go_simp
                first | exact hK.out _ _ trivial hS rfl | (have hk := hK.out _ _ trivial hS rfl; revert hk; go_simp)
              case io11n1x11 =>
                intro k1 w1 hk0 hk1 hb1 hS hd KK hK
                have d8 : x8 = .bool true := hd 8 (by kernel_rfl)
                have d9 : x9 = undef := hd 9 (by kernel_rfl)
                have d10 : x10 = undef := hd 10 (by kernel_rfl)
                clear hd
                subst d8
                subst d9
                subst d10
                simp only [Act.put, List.setIfInBounds_toArray, List.set_cons_zero, List.set_cons_succ] at hK
                go_simp
                first | exact hK.out _ _ trivial hS rfl | (have hk := hK.out _ _ trivial hS rfl; revert hk; go_simp)
              case io11n1x12 =>
                intro k1 w1 hk0 hk1 hb1 hS hd KK hK
                have d8 : x8 = .bool true := hd 8 (by kernel_rfl)
                have d11 : x11 = undef := hd 11 (by kernel_rfl)
                clear hd
                subst d8
                subst d11
                simp only [Act.put, List.setIfInBounds_toArray, List.set_cons_zero, List.set_cons_succ] at hK
                go_simp
                first | exact hK.out _ _ trivial hS rfl | (have hk := hK.out _ _ trivial hS rfl; revert hk; go_simp)
              case io11n1x13 =>
                intro k1 w1 hk0 hk1 hb1 hS hd KK hK
                have d8 : x8 = .bool true := hd 8 (by kernel_rfl)
                have d12 : x12 = undef := hd 12 (by kernel_rfl)
                clear hd
                subst d8
                subst d12
                simp only [Act.put, List.setIfInBounds_toArray, List.set_cons_zero, List.set_cons_succ] at hK
                go_simp
                first | exact hK.out _ _ trivial hS rfl | (have hk := hK.out _ _ trivial hS rfl; revert hk; go_simp)
              case io11n1x14 =>
                intro k1 w1 hk0 hk1 hb1 hS hd KK hK
                have d8 : x8 = .bool true := hd 8 (by kernel_rfl)
                clear hd
                subst d8
                simp only [Act.put, List.setIfInBounds_toArray, List.set_cons_zero, List.set_cons_succ] at hK
                go_simp
                first | exact hK.out _ _ trivial hS rfl | (have hk := hK.out _ _ trivial hS rfl; revert hk; go_simp)
              case io11n1x15 =>
                intro k1 w1 hk0 hk1 hb1 hS hd KK hK
                have d8 : x8 = .bool true := hd 8 (by kernel_rfl)
                clear hd
                subst d8
                simp only [Act.put, List.setIfInBounds_toArray, List.set_cons_zero, List.set_cons_succ] at hK
                go_simp
                first | exact hK.out _ _ trivial hS rfl | (have hk := hK.out _ _ trivial hS rfl; revert hk; go_simp)
              case io11n1x16 =>
                intro k1 w1 hk0 hk1 hb1 hS hd KK hK
                have d8 : x8 = .bool true := hd 8 (by kernel_rfl)
                have d14 : x14 = undef := hd 14 (by kernel_rfl)
                have d15 : x15 = undef := hd 15 (by kernel_rfl)
                clear hd
                subst d8
                subst d14
                subst d15
                simp only [Act.put, List.setIfInBounds_toArray, List.set_cons_zero, List.set_cons_succ] at hK
                go_simp
                first | exact hK.out _ _ trivial hS rfl | (have hk := hK.out _ _ trivial hS rfl; revert hk; go_simp)
              case io11n1x17 =>
                intro k1 w1 hk0 hk1 hb1 hS hd KK hK
                have d8 : x8 = .bool true := hd 8 (by kernel_rfl)
                have d16 : x16 = undef := hd 16 (by kernel_rfl)
                clear hd
                subst d8
                subst d16
                simp only [Act.put, List.setIfInBounds_toArray, List.set_cons_zero, List.set_cons_succ] at hK
                go_simp
                first | exact hK.out _ _ trivial hS rfl | (have hk := hK.out _ _ trivial hS rfl; revert hk; go_simp)
              case io11n1x18 =>
                intro k1 w1 hk0 hk1 hb1 hS hd KK hK
                have d8 : x8 = .bool true := hd 8 (by kernel_rfl)
                have d17 : x17 = undef := hd 17 (by kernel_rfl)
                clear hd
                subst d8
                subst d17
                simp only [Act.put, List.setIfInBounds_toArray, List.set_cons_zero, List.set_cons_succ] at hK
                go_simp
                first | exact hK.out _ _ trivial hS rfl | (have hk := hK.out _ _ trivial hS rfl; revert hk; go_simp)
              case io11n1x19 =>
                intro k1 w1 hk0 hk1 hb1 hS hd KK hK
                have d8 : x8 = .bool true := hd 8 (by kernel_rfl)
                have d13 : x13 = undef := hd 13 (by kernel_rfl)
                have d18 : x18 = undef := hd 18 (by kernel_rfl)
                clear hd
                subst d8
                subst d13
                subst d18
                simp only [Act.put, List.setIfInBounds_toArray, List.set_cons_zero, List.set_cons_succ] at hK
                go_simp
                first | exact hK.out _ _ trivial hS rfl | (have hk := hK.out _ _ trivial hS rfl; revert hk; go_simp)
              case io11n1x20 =>
                intro k1 w1 hk0 hk1 hb1 hS hd KK hK
                have d5 : x5 = .bool true := hd 5 (by kernel_rfl)
                have d8 : x8 = .bool true := hd 8 (by kernel_rfl)
                have d19 : x19 = undef := hd 19 (by kernel_rfl)
                clear hd
                subst d5
                subst d8
                subst d19
                simp only [Act.put, List.setIfInBounds_toArray, List.set_cons_zero, List.set_cons_succ] at hK
                go_simp
                first | exact hK.out _ _ trivial hS rfl | (have hk := hK.out _ _ trivial hS rfl; revert hk; go_simp)
              case io11n1x21 =>
                intro k1 w1 hk0 hk1 hb1 hS hd KK hK
                have d5 : x5 = .bool true := hd 5 (by kernel_rfl)
                have d20 : x20 = .bool true := hd 20 (by kernel_rfl)
                clear hd
                subst d5
                subst d20
                simp only [Act.put, List.setIfInBounds_toArray, List.set_cons_zero, List.set_cons_succ] at hK
                go_simp
                first | exact hK.out _ _ trivial hS rfl | (have hk := hK.out _ _ trivial hS rfl; revert hk; go_simp)
              case iend11n1 =>
                intro w1 hb1 hS hR
                have d0 : x0 = .slice (some ⟨d, 0, none⟩) n n := hR 0 (by decide)
                have d1 : x1 = .int .i64 (k : Int) := hR 1 (by decide)
                have d2 : x2 = .pointer (some ⟨d, k, none⟩) := hR 2 (by decide)
                have d3 : x3 = .bool false := hR 3 (by decide)
                have d4 : x4 = .bool true := hR 4 (by decide)
                have d5 : x5 = .bool true := hR 5 (by decide)
                have d6 : x6 = .int .i64 (-1) := hR 6 (by decide)
                have d7 : x7 = .bool true := hR 7 (by decide)
                have d8 : x8 = .bool true := hR 8 (by decide)
                have d9 : x9 = undef := hR 9 (by decide)
                have d10 : x10 = undef := hR 10 (by decide)
                have d11 : x11 = undef := hR 11 (by decide)
                have d12 : x12 = undef := hR 12 (by decide)
                have d13 : x13 = undef := hR 13 (by decide)
                have d14 : x14 = undef := hR 14 (by decide)
                have d15 : x15 = undef := hR 15 (by decide)
                have d16 : x16 = undef := hR 16 (by decide)
                have d17 : x17 = undef := hR 17 (by decide)
                have d18 : x18 = undef := hR 18 (by decide)
                have d19 : x19 = undef := hR 19 (by decide)
                have d20 : x20 = .bool true := hR 20 (by decide)
                have d21 : x21 = .bool true := hR 21 (by decide)
                clear hR
                subst d0
                subst d1
                subst d2
                subst d3
                subst d4
                subst d5
                subst d6
                subst d7
                subst d8
                subst d9
                subst d10
                subst d11
                subst d12
                subst d13
                subst d14
                subst d15
                subst d16
                subst d17
                subst d18
                subst d19
                subst d20
                subst d21
                try simp only [putAll, Act.put, List.setIfInBounds_toArray, List.set_cons_zero, List.set_cons_succ]
                have F7 := Lib.hid hS
                clear hS hb1 F6
                have HA2 := Lib.hid (HA.out.first HDK.out rfl)
                go_wp2
                go_roundw
                case rel => exact ⟨k + 1, (k : Int), by first | rfl | go_num, rfl, by omega, HA2, F7⟩
                case measure => (simp only [intOf]; omega)
            · subst ha
              have HA1 := Lib.hid (show a1 < n by omega)
              have ha1i : (a1 : Int) < (n : Int) := by omega
              obtain ⟨kk, hkk⟩ : ∃ z, (L k).fr = z := ⟨_, rfl⟩
              obtain ⟨ka, hka⟩ : ∃ z, (L a1).fr = z := ⟨_, rfl⟩
              have HKK := Lib.hid hkk
              have HKA := Lib.hid hka
              clear hkk hka
              by_cases hck : kk < ka
              · skip
                refine wp_region_inv (w := wi) 22 (fun _ _ => True) (fun _ W => Fr w.heap.size w W [(p, flatB4 (PS L g r) n), (d, boolV (dn g r) n)] [] [] []) [] [(fun u _ => u = .slice (some ⟨d, 0, none⟩) n n), (fun u _ => u = .int .i64 (k : Int)), (fun u _ => u = .pointer (some ⟨d, k, none⟩)), (fun u _ => u = .bool false), (fun u _ => u = .bool true), (fun u _ => u = .bool true), (fun u _ => u = .int .i64 (a1 : Int)), (fun u _ => u = .bool false), (fun u _ => u = .bool false), (fun u _ => u = .slice (some ⟨lb, lo, none⟩) n c), (fun u _ => u = .int .i64 (k : Int)), (fun u _ => u = .pointer (some ⟨lb, lo + k * 4, none⟩)), (fun u _ => u = .pointer (some ⟨lb, lo + k * 4, none⟩)), (fun u _ => u = .int .i64 kk), (fun u _ => u = .slice (some ⟨lb, lo, none⟩) n c), (fun u _ => u = .int .i64 (a1 : Int)), (fun u _ => u = .pointer (some ⟨lb, lo + a1 * 4, none⟩)), (fun u _ => u = .pointer (some ⟨lb, lo + a1 * 4, none⟩)), (fun u _ => u = .int .i64 ka), (fun u _ => u = .bool true), (fun u _ => u = .bool true), (fun u _ => u = .bool true)] [some 30, some 31, some 32, some 33, some 34, some 35, some 36, some 37, some 38, some 39, some 40, some 41, some 42, some 43, some 44, some 45, some 46, some 47, some 48, some 49, some 50, some 51] (by kernel_rfl) (by kernel_rfl) rfl (by kernel_rfl) (by kernel_rfl) (by decide) (by decide) (fun _ _ => trivial) trivial F6.out.drew (BorneAll.at (.cons (borne_eq _) (.cons (borne_eq _) (.cons (borne_eq _) (.cons (borne_eq _) (.cons (borne_eq _) (.cons (borne_eq _) (.cons (borne_eq _) (.cons (borne_eq _) (.cons (borne_eq _) (.cons (borne_eq _) (.cons (borne_eq _) (.cons (borne_eq _) (.cons (borne_eq _) (.cons (borne_eq _) (.cons (borne_eq _) (.cons (borne_eq _) (.cons (borne_eq _) (.cons (borne_eq _) (.cons (borne_eq _) (.cons (borne_eq _) (.cons (borne_eq _) (.cons (borne_eq _) .nil))))))))))))))))))))))) (fun vs b hvl hvb => ?_)
                obtain ⟨x0, x1, x2, x3, x4, x5, x6, x7, x8, x9, x10, x11, x12, x13, x14, x15, x16, x17, x18, x19, x20, x21, rfl⟩ : ∃ x0 x1 x2 x3 x4 x5 x6 x7 x8 x9 x10 x11 x12 x13 x14 x15 x16 x17 x18 x19 x20 x21, vs = [x0, x1, x2, x3, x4, x5, x6, x7, x8, x9, x10, x11, x12, x13, x14, x15, x16, x17, x18, x19, x20, x21] := le22 hvl
                clear hvl
                simp only [putAll, Act.put, List.setIfInBounds_toArray, List.set_cons_zero, List.set_cons_succ] at hvb
                subst hvb
                refine ⟨(.snoc (.snoc (.snoc (.snoc (.snoc (.snoc (.snoc (.snoc (.snoc (.snoc (.snoc (.snoc (.snoc (.snoc (.snoc (.snoc (.snoc (.snoc (.snoc (.snoc (.snoc (.snoc .zero (InvOb.intro (d := (some 30)) (r := fun u _ => u = .slice (some ⟨d, 0, none⟩) n n) 0 0 rfl rfl rfl (by kernel_rfl) (by kernel_rfl) rfl ?io11n2x0)) (InvOb.intro (d := (some 31)) (r := fun u _ => u = .int .i64 (k : Int)) 0 0 rfl rfl rfl (by kernel_rfl) (by kernel_rfl) rfl ?io11n2x1)) (InvOb.intro (d := (some 32)) (r := fun u _ => u = .pointer (some ⟨d, k, none⟩)) 0 0 rfl rfl rfl (by kernel_rfl) (by kernel_rfl) rfl ?io11n2x2)) (InvOb.intro (d := (some 33)) (r := fun u _ => u = .bool false) 0 0 rfl rfl rfl (by kernel_rfl) (by kernel_rfl) rfl ?io11n2x3)) (InvOb.intro (d := (some 34)) (r := fun u _ => u = .bool true) 0 0 rfl rfl rfl (by kernel_rfl) (by kernel_rfl) rfl ?io11n2x4)) (InvOb.intro (d := (some 35)) (r := fun u _ => u = .bool true) 0 0 rfl rfl rfl (by kernel_rfl) (by kernel_rfl) rfl ?io11n2x5)) (InvOb.intro (d := (some 36)) (r := fun u _ => u = .int .i64 (a1 : Int)) 0 0 rfl rfl rfl (by kernel_rfl) (by kernel_rfl) rfl ?io11n2x6)) (InvOb.intro (d := (some 37)) (r := fun u _ => u = .bool false) 0 0 rfl rfl rfl (by kernel_rfl) (by kernel_rfl) rfl ?io11n2x7)) (InvOb.intro (d := (some 38)) (r := fun u _ => u = .bool false) 0 0 rfl rfl rfl (by kernel_rfl) (by kernel_rfl) rfl ?io11n2x8)) (InvOb.intro (d := (some 39)) (r := fun u _ => u = .slice (some ⟨lb, lo, none⟩) n c) 0 0 rfl rfl rfl (by kernel_rfl) (by kernel_rfl) rfl ?io11n2x9)) (InvOb.intro (d := (some 40)) (r := fun u _ => u = .int .i64 (k : Int)) 0 0 rfl rfl rfl (by kernel_rfl) (by kernel_rfl) rfl ?io11n2x10)) (InvOb.intro (d := (some 41)) (r := fun u _ => u = .pointer (some ⟨lb, lo + k * 4, none⟩)) 0 0 rfl rfl rfl (by kernel_rfl) (by kernel_rfl) rfl ?io11n2x11)) (InvOb.intro (d := (some 42)) (r := fun u _ => u = .pointer (some ⟨lb, lo + k * 4, none⟩)) 0 0 rfl rfl rfl (by kernel_rfl) (by kernel_rfl) rfl ?io11n2x12)) (InvOb.intro (d := (some 43)) (r := fun u _ => u = .int .i64 kk) 0 0 rfl rfl rfl (by kernel_rfl) (by kernel_rfl) rfl ?io11n2x13)) (InvOb.intro (d := (some 44)) (r := fun u _ => u = .slice (some ⟨lb, lo, none⟩) n c) 0 0 rfl rfl rfl (by kernel_rfl) (by kernel_rfl) rfl ?io11n2x14)) (InvOb.intro (d := (some 45)) (r := fun u _ => u = .int .i64 (a1 : Int)) 0 0 rfl rfl rfl (by kernel_rfl) (by kernel_rfl) rfl ?io11n2x15)) (InvOb.intro (d := (some 46)) (r := fun u _ => u = .pointer (some ⟨lb, lo + a1 * 4, none⟩)) 0 0 rfl rfl rfl (by kernel_rfl) (by kernel_rfl) rfl ?io11n2x16)) (InvOb.intro (d := (some 47)) (r := fun u _ => u = .pointer (some ⟨lb, lo + a1 * 4, none⟩)) 0 0 rfl rfl rfl (by kernel_rfl) (by kernel_rfl) rfl ?io11n2x17)) (InvOb.intro (d := (some 48)) (r := fun u _ => u = .int .i64 ka) 0 0 rfl rfl rfl (by kernel_rfl) (by kernel_rfl) rfl ?io11n2x18)) (InvOb.intro (d := (some 49)) (r := fun u _ => u = .bool true) 0 0 rfl rfl rfl (by kernel_rfl) (by kernel_rfl) rfl ?io11n2x19)) (InvOb.intro (d := (some 50)) (r := fun u _ => u = .bool true) 0 0 rfl rfl rfl (by kernel_rfl) (by kernel_rfl) rfl ?io11n2x20)) (InvOb.intro (d := (some 51)) (r := fun u _ => u = .bool true) 0 0 rfl rfl rfl (by kernel_rfl) (by kernel_rfl) rfl ?io11n2x21)), ?iend11n2⟩
                case io11n2x0 =>
                  intro k1 w1 hk0 hk1 hb1 hS hd KK hK
                  clear hd
                  simp only [Act.put, List.setIfInBounds_toArray, List.set_cons_zero, List.set_cons_succ] at hK
                  go_simp
                  first | exact hK.out _ _ trivial hS rfl | (have hk := hK.out _ _ trivial hS rfl; revert hk; go_simp)
                case io11n2x1 =>
                  intro k1 w1 hk0 hk1 hb1 hS hd KK hK
                  clear hd
                  simp only [Act.put, List.setIfInBounds_toArray, List.set_cons_zero, List.set_cons_succ] at hK
                  go_simp
                  first | exact hK.out _ _ trivial hS rfl | (have hk := hK.out _ _ trivial hS rfl; revert hk; go_simp)
                case io11n2x2 =>
                  intro k1 w1 hk0 hk1 hb1 hS hd KK hK
                  have d0 : x0 = .slice (some ⟨d, 0, none⟩) n n := hd 0 (by kernel_rfl)
                  have d1 : x1 = .int .i64 (k : Int) := hd 1 (by kernel_rfl)
                  clear hd
                  subst d0
                  subst d1
                  have g1 := hki
                  simp only [Act.put, List.setIfInBounds_toArray, List.set_cons_zero, List.set_cons_succ] at hK
                  go_simp
                  first | exact hK.out _ _ trivial hS rfl | (have hk := hK.out _ _ trivial hS rfl; revert hk; go_simp)
                case io11n2x3 =>
                  intro k1 w1 hk0 hk1 hb1 hS hd KK hK
                  have d2 : x2 = .pointer (some ⟨d, k, none⟩) := hd 2 (by kernel_rfl)
                  clear hd
                  subst d2
                  have k0 := (hS.c 1 k rfl (boolV_get _ HKL.out))
                  rw [HDK.out] at k0
                  simp only [Act.put, List.setIfInBounds_toArray, List.set_cons_zero, List.set_cons_succ] at hK
                  go_simp
                  first | exact hK.out _ _ trivial hS rfl | (have hk := hK.out _ _ trivial hS rfl; revert hk; go_simp)
                case io11n2x4 =>
                  intro k1 w1 hk0 hk1 hb1 hS hd KK hK
                  have d3 : x3 = .bool false := hd 3 (by kernel_rfl)
                  clear hd
                  subst d3
                  simp only [Act.put, List.setIfInBounds_toArray, List.set_cons_zero, List.set_cons_succ] at hK
                  go_simp
                  first | exact hK.out _ _ trivial hS rfl | (have hk := hK.out _ _ trivial hS rfl; revert hk; go_simp)
                case io11n2x5 =>
                  intro k1 w1 hk0 hk1 hb1 hS hd KK hK
                  have d4 : x4 = .bool true := hd 4 (by kernel_rfl)
                  clear hd
                  subst d4
                  simp only [Act.put, List.setIfInBounds_toArray, List.set_cons_zero, List.set_cons_succ] at hK
                  go_simp
                  first | exact hK.out _ _ trivial hS rfl | (have hk := hK.out _ _ trivial hS rfl; revert hk; go_simp)
                case io11n2x6 =>
                  intro k1 w1 hk0 hk1 hb1 hS hd KK hK
                  have d5 : x5 = .bool true := hd 5 (by kernel_rfl)
                  clear hd
                  subst d5
                  simp only [Act.put, List.setIfInBounds_toArray, List.set_cons_zero, List.set_cons_succ] at hK
                  go_simp
                  first | exact hK.out _ _ trivial hS rfl | (have hk := hK.out _ _ trivial hS rfl; revert hk; go_simp)
                case io11n2x7 =>
                  intro k1 w1 hk0 hk1 hb1 hS hd KK hK
                  have d5 : x5 = .bool true := hd 5 (by kernel_rfl)
                  have d6 : x6 = .int .i64 (a1 : Int) := hd 6 (by kernel_rfl)
                  clear hd
                  subst d5
                  subst d6
                  have g1 : ¬ (a1 : Int) < 0 := by omega
                  simp only [Act.put, List.setIfInBounds_toArray, List.set_cons_zero, List.set_cons_succ] at hK
                  go_simp
                  first | exact hK.out _ _ trivial hS rfl | (have hk := hK.out _ _ trivial hS rfl; revert hk; go_simp)
                case io11n2x8 =>
                  intro k1 w1 hk0 hk1 hb1 hS hd KK hK
                  have d5 : x5 = .bool true := hd 5 (by kernel_rfl)
                  have d7 : x7 = .bool false := hd 7 (by kernel_rfl)
                  clear hd
                  subst d5
                  subst d7
                  simp only [Act.put, List.setIfInBounds_toArray, List.set_cons_zero, List.set_cons_succ] at hK
                  go_simp
                  first | exact hK.out _ _ trivial hS rfl | (have hk := hK.out _ _ trivial hS rfl; revert hk; go_simp)
                case io11n2x9 =>
                  intro k1 w1 hk0 hk1 hb1 hS hd KK hK
                  have d8 : x8 = .bool false := hd 8 (by kernel_rfl)
                  clear hd
                  subst d8
                  simp only [Act.put, List.setIfInBounds_toArray, List.set_cons_zero, List.set_cons_succ] at hK
                  go_simp
                  first | exact hK.out _ _ trivial hS rfl | (have hk := hK.out _ _ trivial hS rfl; revert hk; go_simp)
                case io11n2x10 =>
                  intro k1 w1 hk0 hk1 hb1 hS hd KK hK
                  have d8 : x8 = .bool false := hd 8 (by kernel_rfl)
                  clear hd
                  subst d8
                  simp only [Act.put, List.setIfInBounds_toArray, List.set_cons_zero, List.set_cons_succ] at hK
                  go_simp
                  first | exact hK.out _ _ trivial hS rfl | (have hk := hK.out _ _ trivial hS rfl; revert hk; go_simp)
                case io11n2x11 =>
                  intro k1 w1 hk0 hk1 hb1 hS hd KK hK
                  have d8 : x8 = .bool false := hd 8 (by kernel_rfl)
                  have d9 : x9 = .slice (some ⟨lb, lo, none⟩) n c := hd 9 (by kernel_rfl)
                  have d10 : x10 = .int .i64 (k : Int) := hd 10 (by kernel_rfl)
                  clear hd
                  subst d8
                  subst d9
                  subst d10
                  have g1 := hki
                  simp only [Act.put, List.setIfInBounds_toArray, List.set_cons_zero, List.set_cons_succ] at hK
                  go_simp
                  first | exact hK.out _ _ trivial hS rfl | (have hk := hK.out _ _ trivial hS rfl; revert hk; go_simp)
                case io11n2x12 =>
                  intro k1 w1 hk0 hk1 hb1 hS hd KK hK
                  have d8 : x8 = .bool false := hd 8 (by kernel_rfl)
                  have d11 : x11 = .pointer (some ⟨lb, lo + k * 4, none⟩) := hd 11 (by kernel_rfl)
                  clear hd
                  subst d8
                  subst d11
                  simp only [Act.put, List.setIfInBounds_toArray, List.set_cons_zero, List.set_cons_succ] at hK
                  go_simp
                  first | exact hK.out _ _ trivial hS rfl | (have hk := hK.out _ _ trivial hS rfl; revert hk; go_simp)
                case io11n2x13 =>
                  intro k1 w1 hk0 hk1 hb1 hS hd KK hK
                  have d8 : x8 = .bool false := hd 8 (by kernel_rfl)
                  have d12 : x12 = .pointer (some ⟨lb, lo + k * 4, none⟩) := hd 12 (by kernel_rfl)
                  clear hd
                  subst d8
                  subst d12
                  obtain ⟨b9, o9, he9, hl9, d0, d1, d2, d3⟩ := (HL.out.below hS.bel (Nat.le_refl _)).four HKL.out
                  cases he9
                  rw [HKK.out] at d0
                  simp only [Act.put, List.setIfInBounds_toArray, List.set_cons_zero, List.set_cons_succ] at hK
                  go_simp
                  first | exact hK.out _ _ trivial hS rfl | (have hk := hK.out _ _ trivial hS rfl; revert hk; go_simp)
                case io11n2x14 =>
                  intro k1 w1 hk0 hk1 hb1 hS hd KK hK
                  have d8 : x8 = .bool false := hd 8 (by kernel_rfl)
                  clear hd
                  subst d8
                  simp only [Act.put, List.setIfInBounds_toArray, List.set_cons_zero, List.set_cons_succ] at hK
                  go_simp
                  first | exact hK.out _ _ trivial hS rfl | (have hk := hK.out _ _ trivial hS rfl; revert hk; go_simp)
                case io11n2x15 =>
                  intro k1 w1 hk0 hk1 hb1 hS hd KK hK
                  have d8 : x8 = .bool false := hd 8 (by kernel_rfl)
                  clear hd
                  subst d8
                  simp only [Act.put, List.setIfInBounds_toArray, List.set_cons_zero, List.set_cons_succ] at hK
                  go_simp
                  first | exact hK.out _ _ trivial hS rfl | (have hk := hK.out _ _ trivial hS rfl; revert hk; go_simp)
                case io11n2x16 =>
                  intro k1 w1 hk0 hk1 hb1 hS hd KK hK
                  have d8 : x8 = .bool false := hd 8 (by kernel_rfl)
                  have d14 : x14 = .slice (some ⟨lb, lo, none⟩) n c := hd 14 (by kernel_rfl)
                  have d15 : x15 = .int .i64 (a1 : Int) := hd 15 (by kernel_rfl)
                  clear hd
                  subst d8
                  subst d14
                  subst d15
                  have g1 := ha1i
                  simp only [Act.put, List.setIfInBounds_toArray, List.set_cons_zero, List.set_cons_succ] at hK
                  go_simp
                  first | exact hK.out _ _ trivial hS rfl | (have hk := hK.out _ _ trivial hS rfl; revert hk; go_simp)
                case io11n2x17 =>
                  intro k1 w1 hk0 hk1 hb1 hS hd KK hK
                  have d8 : x8 = .bool false := hd 8 (by kernel_rfl)
                  have d16 : x16 = .pointer (some ⟨lb, lo + a1 * 4, none⟩) := hd 16 (by kernel_rfl)
                  clear hd
                  subst d8
                  subst d16
                  simp only [Act.put, List.setIfInBounds_toArray, List.set_cons_zero, List.set_cons_succ] at hK
                  go_simp
                  first | exact hK.out _ _ trivial hS rfl | (have hk := hK.out _ _ trivial hS rfl; revert hk; go_simp)
                case io11n2x18 =>
                  intro k1 w1 hk0 hk1 hb1 hS hd KK hK
                  have d8 : x8 = .bool false := hd 8 (by kernel_rfl)
                  have d17 : x17 = .pointer (some ⟨lb, lo + a1 * 4, none⟩) := hd 17 (by kernel_rfl)
                  clear hd
                  subst d8
                  subst d17
                  obtain ⟨b9, o9, he9, hl9, d0, d1, d2, d3⟩ := (HL.out.below hS.bel (Nat.le_refl _)).four HA1.out
                  cases he9
                  rw [HKA.out] at d0
                  simp only [Act.put, List.setIfInBounds_toArray, List.set_cons_zero, List.set_cons_succ] at hK
                  go_simp
                  first | exact hK.out _ _ trivial hS rfl | (have hk := hK.out _ _ trivial hS rfl; revert hk; go_simp)
                case io11n2x19 =>
                  intro k1 w1 hk0 hk1 hb1 hS hd KK hK
                  have d8 : x8 = .bool false := hd 8 (by kernel_rfl)
                  have d13 : x13 = .int .i64 kk := hd 13 (by kernel_rfl)
                  have d18 : x18 = .int .i64 ka := hd 18 (by kernel_rfl)
                  clear hd
                  subst d8
                  subst d13
                  subst d18
                  have g2 := hck
                  simp only [Act.put, List.setIfInBounds_toArray, List.set_cons_zero, List.set_cons_succ] at hK
                  go_simp
                  first | exact hK.out _ _ trivial hS rfl | (have hk := hK.out _ _ trivial hS rfl; revert hk; go_simp)
                case io11n2x20 =>
                  intro k1 w1 hk0 hk1 hb1 hS hd KK hK
                  have d5 : x5 = .bool true := hd 5 (by kernel_rfl)
                  have d8 : x8 = .bool false := hd 8 (by kernel_rfl)
                  have d19 : x19 = .bool true := hd 19 (by kernel_rfl)
                  clear hd
                  subst d5
                  subst d8
                  subst d19
                  simp only [Act.put, List.setIfInBounds_toArray, List.set_cons_zero, List.set_cons_succ] at hK
                  go_simp
                  first | exact hK.out _ _ trivial hS rfl | (have hk := hK.out _ _ trivial hS rfl; revert hk; go_simp)
                case io11n2x21 =>
                  intro k1 w1 hk0 hk1 hb1 hS hd KK hK
                  have d5 : x5 = .bool true := hd 5 (by kernel_rfl)
                  have d20 : x20 = .bool true := hd 20 (by kernel_rfl)
                  clear hd
                  subst d5
                  subst d20
                  simp only [Act.put, List.setIfInBounds_toArray, List.set_cons_zero, List.set_cons_succ] at hK
                  go_simp
                  first | exact hK.out _ _ trivial hS rfl | (have hk := hK.out _ _ trivial hS rfl; revert hk; go_simp)
                case iend11n2 =>
                  intro w1 hb1 hS hR
                  have d0 : x0 = .slice (some ⟨d, 0, none⟩) n n := hR 0 (by decide)
                  have d1 : x1 = .int .i64 (k : Int) := hR 1 (by decide)
                  have d2 : x2 = .pointer (some ⟨d, k, none⟩) := hR 2 (by decide)
                  have d3 : x3 = .bool false := hR 3 (by decide)
                  have d4 : x4 = .bool true := hR 4 (by decide)
                  have d5 : x5 = .bool true := hR 5 (by decide)
                  have d6 : x6 = .int .i64 (a1 : Int) := hR 6 (by decide)
                  have d7 : x7 = .bool false := hR 7 (by decide)
                  have d8 : x8 = .bool false := hR 8 (by decide)
                  have d9 : x9 = .slice (some ⟨lb, lo, none⟩) n c := hR 9 (by decide)
                  have d10 : x10 = .int .i64 (k : Int) := hR 10 (by decide)
                  have d11 : x11 = .pointer (some ⟨lb, lo + k * 4, none⟩) := hR 11 (by decide)
                  have d12 : x12 = .pointer (some ⟨lb, lo + k * 4, none⟩) := hR 12 (by decide)
                  have d13 : x13 = .int .i64 kk := hR 13 (by decide)
                  have d14 : x14 = .slice (some ⟨lb, lo, none⟩) n c := hR 14 (by decide)
                  have d15 : x15 = .int .i64 (a1 : Int) := hR 15 (by decide)
                  have d16 : x16 = .pointer (some ⟨lb, lo + a1 * 4, none⟩) := hR 16 (by decide)
                  have d17 : x17 = .pointer (some ⟨lb, lo + a1 * 4, none⟩) := hR 17 (by decide)
                  have d18 : x18 = .int .i64 ka := hR 18 (by decide)
                  have d19 : x19 = .bool true := hR 19 (by decide)
                  have d20 : x20 = .bool true := hR 20 (by decide)
                  have d21 : x21 = .bool true := hR 21 (by decide)
                  clear hR
                  subst d0
                  subst d1
                  subst d2
                  subst d3
                  subst d4
                  subst d5
                  subst d6
                  subst d7
                  subst d8
                  subst d9
                  subst d10
                  subst d11
                  subst d12
                  subst d13
                  subst d14
                  subst d15
                  subst d16
                  subst d17
                  subst d18
                  subst d19
                  subst d20
                  subst d21
                  try simp only [putAll, Act.put, List.setIfInBounds_toArray, List.set_cons_zero, List.set_cons_succ]
                  have F7 := Lib.hid hS
                  clear hS hb1 F6
                  have HA2 := Lib.hid (HA.out.less HDK.out (by rw [HKK.out, HKA.out]; exact hck))
                  go_wp2
                  go_roundw
                  case rel => exact ⟨k + 1, (k : Int), by first | rfl | go_num, rfl, by omega, HA2, F7⟩
                  case measure => (simp only [intOf]; omega)
              · skip
                refine wp_region_inv (w := wi) 22 (fun _ _ => True) (fun _ W => Fr w.heap.size w W [(p, flatB4 (PS L g r) n), (d, boolV (dn g r) n)] [] [] []) [] [(fun u _ => u = .slice (some ⟨d, 0, none⟩) n n), (fun u _ => u = .int .i64 (k : Int)), (fun u _ => u = .pointer (some ⟨d, k, none⟩)), (fun u _ => u = .bool false), (fun u _ => u = .bool true), (fun u _ => u = .bool true), (fun u _ => u = .int .i64 (a1 : Int)), (fun u _ => u = .bool false), (fun u _ => u = .bool false), (fun u _ => u = .slice (some ⟨lb, lo, none⟩) n c), (fun u _ => u = .int .i64 (k : Int)), (fun u _ => u = .pointer (some ⟨lb, lo + k * 4, none⟩)), (fun u _ => u = .pointer (some ⟨lb, lo + k * 4, none⟩)), (fun u _ => u = .int .i64 kk), (fun u _ => u = .slice (some ⟨lb, lo, none⟩) n c), (fun u _ => u = .int .i64 (a1 : Int)), (fun u _ => u = .pointer (some ⟨lb, lo + a1 * 4, none⟩)), (fun u _ => u = .pointer (some ⟨lb, lo + a1 * 4, none⟩)), (fun u _ => u = .int .i64 ka), (fun u _ => u = .bool false), (fun u _ => u = .bool false), (fun u _ => u = .bool false)] [some 30, some 31, some 32, some 33, some 34, some 35, some 36, some 37, some 38, some 39, some 40, some 41, some 42, some 43, some 44, some 45, some 46, some 47, some 48, some 49, some 50, some 51] (by kernel_rfl) (by kernel_rfl) rfl (by kernel_rfl) (by kernel_rfl) (by decide) (by decide) (fun _ _ => trivial) trivial F6.out.drew (BorneAll.at (.cons (borne_eq _) (.cons (borne_eq _) (.cons (borne_eq _) (.cons (borne_eq _) (.cons (borne_eq _) (.cons (borne_eq _) (.cons (borne_eq _) (.cons (borne_eq _) (.cons (borne_eq _) (.cons (borne_eq _) (.cons (borne_eq _) (.cons (borne_eq _) (.cons (borne_eq _) (.cons (borne_eq _) (.cons (borne_eq _) (.cons (borne_eq _) (.cons (borne_eq _) (.cons (borne_eq _) (.cons (borne_eq _) (.cons (borne_eq _) (.cons (borne_eq _) (.cons (borne_eq _) .nil))))))))))))))))))))))) (fun vs b hvl hvb => ?_)
                obtain ⟨x0, x1, x2, x3, x4, x5, x6, x7, x8, x9, x10, x11, x12, x13, x14, x15, x16, x17, x18, x19, x20, x21, rfl⟩ : ∃ x0 x1 x2 x3 x4 x5 x6 x7 x8 x9 x10 x11 x12 x13 x14 x15 x16 x17 x18 x19 x20 x21, vs = [x0, x1, x2, x3, x4, x5, x6, x7, x8, x9, x10, x11, x12, x13, x14, x15, x16, x17, x18, x19, x20, x21] := le22 hvl
                clear hvl
                simp only [putAll, Act.put, List.setIfInBounds_toArray, List.set_cons_zero, List.set_cons_succ] at hvb
                subst hvb
                refine ⟨(.snoc (.snoc (.snoc (.snoc (.snoc (.snoc (.snoc (.snoc (.snoc (.snoc (.snoc (.snoc (.snoc (.snoc (.snoc (.snoc (.snoc (.snoc (.snoc (.snoc (.snoc (.snoc .zero (InvOb.intro (d := (some 30)) (r := fun u _ => u = .slice (some ⟨d, 0, none⟩) n n) 0 0 rfl rfl rfl (by kernel_rfl) (by kernel_rfl) rfl ?io11n3x0)) (InvOb.intro (d := (some 31)) (r := fun u _ => u = .int .i64 (k : Int)) 0 0 rfl rfl rfl (by kernel_rfl) (by kernel_rfl) rfl ?io11n3x1)) (InvOb.intro (d := (some 32)) (r := fun u _ => u = .pointer (some ⟨d, k, none⟩)) 0 0 rfl rfl rfl (by kernel_rfl) (by kernel_rfl) rfl ?io11n3x2)) (InvOb.intro (d := (some 33)) (r := fun u _ => u = .bool false) 0 0 rfl rfl rfl (by kernel_rfl) (by kernel_rfl) rfl ?io11n3x3)) (InvOb.intro (d := (some 34)) (r := fun u _ => u = .bool true) 0 0 rfl rfl rfl (by kernel_rfl) (by kernel_rfl) rfl ?io11n3x4)) (InvOb.intro (d := (some 35)) (r := fun u _ => u = .bool true) 0 0 rfl rfl rfl (by kernel_rfl) (by kernel_rfl) rfl ?io11n3x5)) (InvOb.intro (d := (some 36)) (r := fun u _ => u = .int .i64 (a1 : Int)) 0 0 rfl rfl rfl (by kernel_rfl) (by kernel_rfl) rfl ?io11n3x6)) (InvOb.intro (d := (some 37)) (r := fun u _ => u = .bool false) 0 0 rfl rfl rfl (by kernel_rfl) (by kernel_rfl) rfl ?io11n3x7)) (InvOb.intro (d := (some 38)) (r := fun u _ => u = .bool false) 0 0 rfl rfl rfl (by kernel_rfl) (by kernel_rfl) rfl ?io11n3x8)) (InvOb.intro (d := (some 39)) (r := fun u _ => u = .slice (some ⟨lb, lo, none⟩) n c) 0 0 rfl rfl rfl (by kernel_rfl) (by kernel_rfl) rfl ?io11n3x9)) (InvOb.intro (d := (some 40)) (r := fun u _ => u = .int .i64 (k : Int)) 0 0 rfl rfl rfl (by kernel_rfl) (by kernel_rfl) rfl ?io11n3x10)) (InvOb.intro (d := (some 41)) (r := fun u _ => u = .pointer (some ⟨lb, lo + k * 4, none⟩)) 0 0 rfl rfl rfl (by kernel_rfl) (by kernel_rfl) rfl ?io11n3x11)) (InvOb.intro (d := (some 42)) (r := fun u _ => u = .pointer (some ⟨lb, lo + k * 4, none⟩)) 0 0 rfl rfl rfl (by kernel_rfl) (by kernel_rfl) rfl ?io11n3x12)) (InvOb.intro (d := (some 43)) (r := fun u _ => u = .int .i64 kk) 0 0 rfl rfl rfl (by kernel_rfl) (by kernel_rfl) rfl ?io11n3x13)) (InvOb.intro (d := (some 44)) (r := fun u _ => u = .slice (some ⟨lb, lo, none⟩) n c) 0 0 rfl rfl rfl (by kernel_rfl) (by kernel_rfl) rfl ?io11n3x14)) (InvOb.intro (d := (some 45)) (r := fun u _ => u = .int .i64 (a1 : Int)) 0 0 rfl rfl rfl (by kernel_rfl) (by kernel_rfl) rfl ?io11n3x15)) (InvOb.intro (d := (some 46)) (r := fun u _ => u = .pointer (some ⟨lb, lo + a1 * 4, none⟩)) 0 0 rfl rfl rfl (by kernel_rfl) (by kernel_rfl) rfl ?io11n3x16)) (InvOb.intro (d := (some 47)) (r := fun u _ => u = .pointer (some ⟨lb, lo + a1 * 4, none⟩)) 0 0 rfl rfl rfl (by kernel_rfl) (by kernel_rfl) rfl ?io11n3x17)) (InvOb.intro (d := (some 48)) (r := fun u _ => u = .int .i64 ka) 0 0 rfl rfl rfl (by kernel_rfl) (by kernel_rfl) rfl ?io11n3x18)) (InvOb.intro (d := (some 49)) (r := fun u _ => u = .bool false) 0 0 rfl rfl rfl (by kernel_rfl) (by kernel_rfl) rfl ?io11n3x19)) (InvOb.intro (d := (some 50)) (r := fun u _ => u = .bool false) 0 0 rfl rfl rfl (by kernel_rfl) (by kernel_rfl) rfl ?io11n3x20)) (InvOb.intro (d := (some 51)) (r := fun u _ => u = .bool false) 0 0 rfl rfl rfl (by kernel_rfl) (by kernel_rfl) rfl ?io11n3x21)), ?iend11n3⟩
                case io11n3x0 =>
                  intro k1 w1 hk0 hk1 hb1 hS hd KK hK
                  clear hd
                  simp only [Act.put, List.setIfInBounds_toArray, List.set_cons_zero, List.set_cons_succ] at hK
                  go_simp
                  first | exact hK.out _ _ trivial hS rfl | (have hk := hK.out _ _ trivial hS rfl; revert hk; go_simp)
                case io11n3x1 =>
                  intro k1 w1 hk0 hk1 hb1 hS hd KK hK
                  clear hd
                  simp only [Act.put, List.setIfInBounds_toArray, List.set_cons_zero, List.set_cons_succ] at hK
                  go_simp
                  first | exact hK.out _ _ trivial hS rfl | (have hk := hK.out _ _ trivial hS rfl; revert hk; go_simp)
                case io11n3x2 =>
                  intro k1 w1 hk0 hk1 hb1 hS hd KK hK
                  have d0 : x0 = .slice (some ⟨d, 0, none⟩) n n := hd 0 (by kernel_rfl)
                  have d1 : x1 = .int .i64 (k : Int) := hd 1 (by kernel_rfl)
                  clear hd
                  subst d0
                  subst d1
                  have g1 := hki
                  simp only [Act.put, List.setIfInBounds_toArray, List.set_cons_zero, List.set_cons_succ] at hK
                  go_simp
                  first | exact hK.out _ _ trivial hS rfl | (have hk := hK.out _ _ trivial hS rfl; revert hk; go_simp)
                case io11n3x3 =>
                  intro k1 w1 hk0 hk1 hb1 hS hd KK hK
                  have d2 : x2 = .pointer (some ⟨d, k, none⟩) := hd 2 (by kernel_rfl)
                  clear hd
                  subst d2
                  have k0 := (hS.c 1 k rfl (boolV_get _ HKL.out))
                  rw [HDK.out] at k0
                  simp only [Act.put, List.setIfInBounds_toArray, List.set_cons_zero, List.set_cons_succ] at hK
                  go_simp
                  first | exact hK.out _ _ trivial hS rfl | (have hk := hK.out _ _ trivial hS rfl; revert hk; go_simp)
                case io11n3x4 =>
                  intro k1 w1 hk0 hk1 hb1 hS hd KK hK
                  have d3 : x3 = .bool false := hd 3 (by kernel_rfl)
                  clear hd
                  subst d3
                  simp only [Act.put, List.setIfInBounds_toArray, List.set_cons_zero, List.set_cons_succ] at hK
                  go_simp
                  first | exact hK.out _ _ trivial hS rfl | (have hk := hK.out _ _ trivial hS rfl; revert hk; go_simp)
                case io11n3x5 =>
                  intro k1 w1 hk0 hk1 hb1 hS hd KK hK
                  have d4 : x4 = .bool true := hd 4 (by kernel_rfl)
                  clear hd
                  subst d4
                  simp only [Act.put, List.setIfInBounds_toArray, List.set_cons_zero, List.set_cons_succ] at hK
                  go_simp
                  first | exact hK.out _ _ trivial hS rfl | (have hk := hK.out _ _ trivial hS rfl; revert hk; go_simp)
                case io11n3x6 =>
                  intro k1 w1 hk0 hk1 hb1 hS hd KK hK
                  have d5 : x5 = .bool true := hd 5 (by kernel_rfl)
                  clear hd
                  subst d5
                  simp only [Act.put, List.setIfInBounds_toArray, List.set_cons_zero, List.set_cons_succ] at hK
                  go_simp
                  first | exact hK.out _ _ trivial hS rfl | (have hk := hK.out _ _ trivial hS rfl; revert hk; go_simp)
                case io11n3x7 =>
                  intro k1 w1 hk0 hk1 hb1 hS hd KK hK
                  have d5 : x5 = .bool true := hd 5 (by kernel_rfl)
                  have d6 : x6 = .int .i64 (a1 : Int) := hd 6 (by kernel_rfl)
                  clear hd
                  subst d5
                  subst d6
                  have g1 : ¬ (a1 : Int) < 0 := by omega
                  simp only [Act.put, List.setIfInBounds_toArray, List.set_cons_zero, List.set_cons_succ] at hK
                  go_simp
                  first | exact hK.out _ _ trivial hS rfl | (have hk := hK.out _ _ trivial hS rfl; revert hk; go_simp)
                case io11n3x8 =>
                  intro k1 w1 hk0 hk1 hb1 hS hd KK hK
                  have d5 : x5 = .bool true := hd 5 (by kernel_rfl)
                  have d7 : x7 = .bool false := hd 7 (by kernel_rfl)
                  clear hd
                  subst d5
                  subst d7
                  simp only [Act.put, List.setIfInBounds_toArray, List.set_cons_zero, List.set_cons_succ] at hK
                  go_simp
                  first | exact hK.out _ _ trivial hS rfl | (have hk := hK.out _ _ trivial hS rfl; revert hk; go_simp)
                case io11n3x9 =>
                  intro k1 w1 hk0 hk1 hb1 hS hd KK hK
                  have d8 : x8 = .bool false := hd 8 (by kernel_rfl)
                  clear hd
                  subst d8
                  simp only [Act.put, List.setIfInBounds_toArray, List.set_cons_zero, List.set_cons_succ] at hK
                  go_simp
                  first | exact hK.out _ _ trivial hS rfl | (have hk := hK.out _ _ trivial hS rfl; revert hk; go_simp)
                case io11n3x10 =>
                  intro k1 w1 hk0 hk1 hb1 hS hd KK hK
                  have d8 : x8 = .bool false := hd 8 (by kernel_rfl)
                  clear hd
                  subst d8
                  simp only [Act.put, List.setIfInBounds_toArray, List.set_cons_zero, List.set_cons_succ] at hK
                  go_simp
                  first | exact hK.out _ _ trivial hS rfl | (have hk := hK.out _ _ trivial hS rfl; revert hk; go_simp)
                case io11n3x11 =>
                  intro k1 w1 hk0 hk1 hb1 hS hd KK hK
                  have d8 : x8 = .bool false := hd 8 (by kernel_rfl)
                  have d9 : x9 = .slice (some ⟨lb, lo, none⟩) n c := hd 9 (by kernel_rfl)
                  have d10 : x10 = .int .i64 (k : Int) := hd 10 (by kernel_rfl)
                  clear hd
                  subst d8
                  subst d9
                  subst d10
                  have g1 := hki
                  simp only [Act.put, List.setIfInBounds_toArray, List.set_cons_zero, List.set_cons_succ] at hK
                  go_simp
                  first | exact hK.out _ _ trivial hS rfl | (have hk := hK.out _ _ trivial hS rfl; revert hk; go_simp)
                case io11n3x12 =>
                  intro k1 w1 hk0 hk1 hb1 hS hd KK hK
                  have d8 : x8 = .bool false := hd 8 (by kernel_rfl)
                  have d11 : x11 = .pointer (some ⟨lb, lo + k * 4, none⟩) := hd 11 (by kernel_rfl)
                  clear hd
                  subst d8
                  subst d11
                  simp only [Act.put, List.setIfInBounds_toArray, List.set_cons_zero, List.set_cons_succ] at hK
                  go_simp
                  first | exact hK.out _ _ trivial hS rfl | (have hk := hK.out _ _ trivial hS rfl; revert hk; go_simp)
                case io11n3x13 =>
                  intro k1 w1 hk0 hk1 hb1 hS hd KK hK
                  have d8 : x8 = .bool false := hd 8 (by kernel_rfl)
                  have d12 : x12 = .pointer (some ⟨lb, lo + k * 4, none⟩) := hd 12 (by kernel_rfl)
                  clear hd
                  subst d8
                  subst d12
                  obtain ⟨b9, o9, he9, hl9, d0, d1, d2, d3⟩ := (HL.out.below hS.bel (Nat.le_refl _)).four HKL.out
                  cases he9
                  rw [HKK.out] at d0
                  simp only [Act.put, List.setIfInBounds_toArray, List.set_cons_zero, List.set_cons_succ] at hK
                  go_simp
                  first | exact hK.out _ _ trivial hS rfl | (have hk := hK.out _ _ trivial hS rfl; revert hk; go_simp)
                case io11n3x14 =>
                  intro k1 w1 hk0 hk1 hb1 hS hd KK hK
                  have d8 : x8 = .bool false := hd 8 (by kernel_rfl)
                  clear hd
                  subst d8
                  simp only [Act.put, List.setIfInBounds_toArray, List.set_cons_zero, List.set_cons_succ] at hK
                  go_simp
                  first | exact hK.out _ _ trivial hS rfl | (have hk := hK.out _ _ trivial hS rfl; revert hk; go_simp)
                case io11n3x15 =>
                  intro k1 w1 hk0 hk1 hb1 hS hd KK hK
                  have d8 : x8 = .bool false := hd 8 (by kernel_rfl)
                  clear hd
                  subst d8
                  simp only [Act.put, List.setIfInBounds_toArray, List.set_cons_zero, List.set_cons_succ] at hK
                  go_simp
                  first | exact hK.out _ _ trivial hS rfl | (have hk := hK.out _ _ trivial hS rfl; revert hk; go_simp)
                case io11n3x16 =>
                  intro k1 w1 hk0 hk1 hb1 hS hd KK hK
                  have d8 : x8 = .bool false := hd 8 (by kernel_rfl)
                  have d14 : x14 = .slice (some ⟨lb, lo, none⟩) n c := hd 14 (by kernel_rfl)
                  have d15 : x15 = .int .i64 (a1 : Int) := hd 15 (by kernel_rfl)
                  clear hd
                  subst d8
                  subst d14
                  subst d15
                  have g1 := ha1i
                  simp only [Act.put, List.setIfInBounds_toArray, List.set_cons_zero, List.set_cons_succ] at hK
                  go_simp
                  first | exact hK.out _ _ trivial hS rfl | (have hk := hK.out _ _ trivial hS rfl; revert hk; go_simp)
                case io11n3x17 =>
                  intro k1 w1 hk0 hk1 hb1 hS hd KK hK
                  have d8 : x8 = .bool false := hd 8 (by kernel_rfl)
                  have d16 : x16 = .pointer (some ⟨lb, lo + a1 * 4, none⟩) := hd 16 (by kernel_rfl)
                  clear hd
                  subst d8
                  subst d16
                  simp only [Act.put, List.setIfInBounds_toArray, List.set_cons_zero, List.set_cons_succ] at hK
                  go_simp
                  first | exact hK.out _ _ trivial hS rfl | (have hk := hK.out _ _ trivial hS rfl; revert hk; go_simp)
                case io11n3x18 =>
                  intro k1 w1 hk0 hk1 hb1 hS hd KK hK
                  have d8 : x8 = .bool false := hd 8 (by kernel_rfl)
                  have d17 : x17 = .pointer (some ⟨lb, lo + a1 * 4, none⟩) := hd 17 (by kernel_rfl)
                  clear hd
                  subst d8
                  subst d17
                  obtain ⟨b9, o9, he9, hl9, d0, d1, d2, d3⟩ := (HL.out.below hS.bel (Nat.le_refl _)).four HA1.out
                  cases he9
                  rw [HKA.out] at d0
                  simp only [Act.put, List.setIfInBounds_toArray, List.set_cons_zero, List.set_cons_succ] at hK
                  go_simp
                  first | exact hK.out _ _ trivial hS rfl | (have hk := hK.out _ _ trivial hS rfl; revert hk; go_simp)
                case io11n3x19 =>
                  intro k1 w1 hk0 hk1 hb1 hS hd KK hK
                  have d8 : x8 = .bool false := hd 8 (by kernel_rfl)
                  have d13 : x13 = .int .i64 kk := hd 13 (by kernel_rfl)
                  have d18 : x18 = .int .i64 ka := hd 18 (by kernel_rfl)
                  clear hd
                  subst d8
                  subst d13
                  subst d18
                  have g2 := hck
                  simp only [Act.put, List.setIfInBounds_toArray, List.set_cons_zero, List.set_cons_succ] at hK
                  go_simp
                  first | exact hK.out _ _ trivial hS rfl | (have hk := hK.out _ _ trivial hS rfl; revert hk; go_simp)
                case io11n3x20 =>
                  intro k1 w1 hk0 hk1 hb1 hS hd KK hK
                  have d5 : x5 = .bool true := hd 5 (by kernel_rfl)
                  have d8 : x8 = .bool false := hd 8 (by kernel_rfl)
                  have d19 : x19 = .bool false := hd 19 (by kernel_rfl)
                  clear hd
                  subst d5
                  subst d8
                  subst d19
                  simp only [Act.put, List.setIfInBounds_toArray, List.set_cons_zero, List.set_cons_succ] at hK
                  go_simp
                  first | exact hK.out _ _ trivial hS rfl | (have hk := hK.out _ _ trivial hS rfl; revert hk; go_simp)
                case io11n3x21 =>
                  intro k1 w1 hk0 hk1 hb1 hS hd KK hK
                  have d5 : x5 = .bool true := hd 5 (by kernel_rfl)
                  have d20 : x20 = .bool false := hd 20 (by kernel_rfl)
                  clear hd
                  subst d5
                  subst d20
                  simp only [Act.put, List.setIfInBounds_toArray, List.set_cons_zero, List.set_cons_succ] at hK
                  go_simp
                  first | exact hK.out _ _ trivial hS rfl | (have hk := hK.out _ _ trivial hS rfl; revert hk; go_simp)
                case iend11n3 =>
                  intro w1 hb1 hS hR
                  have d0 : x0 = .slice (some ⟨d, 0, none⟩) n n := hR 0 (by decide)
                  have d1 : x1 = .int .i64 (k : Int) := hR 1 (by decide)
                  have d2 : x2 = .pointer (some ⟨d, k, none⟩) := hR 2 (by decide)
                  have d3 : x3 = .bool false := hR 3 (by decide)
                  have d4 : x4 = .bool true := hR 4 (by decide)
                  have d5 : x5 = .bool true := hR 5 (by decide)
                  have d6 : x6 = .int .i64 (a1 : Int) := hR 6 (by decide)
                  have d7 : x7 = .bool false := hR 7 (by decide)
                  have d8 : x8 = .bool false := hR 8 (by decide)
                  have d9 : x9 = .slice (some ⟨lb, lo, none⟩) n c := hR 9 (by decide)
                  have d10 : x10 = .int .i64 (k : Int) := hR 10 (by decide)
                  have d11 : x11 = .pointer (some ⟨lb, lo + k * 4, none⟩) := hR 11 (by decide)
                  have d12 : x12 = .pointer (some ⟨lb, lo + k * 4, none⟩) := hR 12 (by decide)
                  have d13 : x13 = .int .i64 kk := hR 13 (by decide)
                  have d14 : x14 = .slice (some ⟨lb, lo, none⟩) n c := hR 14 (by decide)
                  have d15 : x15 = .int .i64 (a1 : Int) := hR 15 (by decide)
                  have d16 : x16 = .pointer (some ⟨lb, lo + a1 * 4, none⟩) := hR 16 (by decide)
                  have d17 : x17 = .pointer (some ⟨lb, lo + a1 * 4, none⟩) := hR 17 (by decide)
                  have d18 : x18 = .int .i64 ka := hR 18 (by decide)
                  have d19 : x19 = .bool false := hR 19 (by decide)
                  have d20 : x20 = .bool false := hR 20 (by decide)
                  have d21 : x21 = .bool false := hR 21 (by decide)
                  clear hR
                  subst d0
                  subst d1
                  subst d2
                  subst d3
                  subst d4
                  subst d5
                  subst d6
                  subst d7
                  subst d8
                  subst d9
                  subst d10
                  subst d11
                  subst d12
                  subst d13
                  subst d14
                  subst d15
                  subst d16
                  subst d17
                  subst d18
                  subst d19
                  subst d20
                  subst d21
                  try simp only [putAll, Act.put, List.setIfInBounds_toArray, List.set_cons_zero, List.set_cons_succ]
                  have F7 := Lib.hid hS
                  clear hS hb1 F6
                  have HA2 := Lib.hid (HA.out.keep HDK.out (by rw [HKK.out, HKA.out]; exact hck))
                  go_wp2
                  go_roundw
                  case rel => exact ⟨k + 1, (a1 : Int), by first | rfl | go_num, rfl, by omega, HA2, F7⟩
                  case measure => (simp only [intOf]; omega)
        · obtain rfl : n = k := by omega
          have hat := HA.out.done OG.out hlt
          subst hat
          have hgr := OG.out.lt r hlt
          obtain ⟨y, hy⟩ : ∃ z, g r = z := ⟨_, rfl⟩
          rw [hy] at hgr ⊢
          have HYG := Lib.hid hy
          clear hy HA
          have hyi : (y : Int) < (n : Int) := by omega
          have HGR := Lib.hid hgr
          go_wp2
          obtain ⟨⟨y1, y2, y3, y4⟩, hLy⟩ : ∃ z, L y = z := ⟨_, rfl⟩
          have hyo := bufOk_iff.1 (OK.out.2 y hgr)
          rw [hLy] at hyo
          simp only at hyo
          have HLY := Lib.hid hLy
          have hfree : ∀ q : Int, 0 ≤ q ∧ q ≤ 1000000000 → ∀ W, Fr w.heap.size w W [(p, flatB4 (PS L g r) n), (d, boolV (dn g r) n)] [] [] [] → Calls Try.prog 13 #[.slice (some ⟨p, 0, none⟩) n cp, .slice (some ⟨d, 0, none⟩) n n, .agg #[.int .i64 y1, .int .i64 y2, .int .i64 y3, .int .i64 y4], .int .i64 q] W (fun e w9 => TellsB e (FreeD (PS L g r) (dn g r) n ⟨y1, y2, y3, y4⟩ q) ∧ Below W.heap.size W w9) := fun q hq W hF => by
            refine qfree_any _ _ cp n n (PS L g r) (dn g r) y1 y2 y3 y4 q W (bl_ofbox (hF.box _ (List.mem_of_getElem? (i := 0) rfl)).1 (hF.bl 0 rfl).2 (by omega)) (dl_ofbox (hF.box _ (List.mem_of_getElem? (i := 1) rfl)).1 (hF.bl 1 rfl).2) hq (by omega) (fun i hi => ?_) (fun i hi hd => ?_)
            · have h9 := bufOk_iff.1 (OK.out.2 i hi)
              rw [(PS_same L g r i).2.2]; omega
            · obtain ⟨m, hm, rfl⟩ := dn_iff.1 hd
              rw [PS_stays OG.out r hm (by omega)]
              have h9 := plK_bd OG.out OK.out (k := m) (by omega)
              exact ⟨h9.1, by show plK L g m ≤ _; omega⟩
          have HFREE := Lib.hid hfree
          clear hfree hLy
          go_loopw [10, 11] (fun s10 s11 wr => ∃ (j : Nat) (z b : Int), s11 = .int .i64 z ∧ s10 = .int .i64 b ∧ z = (j : Int) - 1 ∧ j ≤ n + 1 ∧ Hid (BestAt (PS L g r) (dn g r) n ⟨y1, y2, y3, y4⟩ j b) ∧ Hid (Fr w.heap.size w wr [(p, flatB4 (PS L g r) n), (d, boolV (dn g r) n)] [] [] [])) (fun _ s11 _ => n + 1 - (intOf s11 + 1).toNat)
          case atStart => exact ⟨0, -1, -1, rfl, rfl, by omega, by omega, Lib.hid BestAt.start, F6⟩
          case round =>
            obtain ⟨j, z, b, rfl, rfl, hz, hj, HB, F8⟩ := hrel
            clear F6
            obtain ⟨wk, rfl⟩ : ∃ x : World, x = wr := ⟨_, rfl⟩
            by_cases hjl : j < n + 1
            · skip
              have hzi : z < (n : Int) := by omega
              by_cases hj0 : j = 0
              · subst hj0
                obtain rfl : z = -1 := by omega
                clear hz
                have hcd : ∀ pq, CandL (PS L g r) (dn g r) (0 + 1) pq → CandL (PS L g r) (dn g r) ((0 + 1) - 1) pq ∨ pq = 0 := (fun pq h9 => .inr (cand_zero h9))
                have HCD := Lib.hid hcd
                clear hcd
                rcases HB.out.range with hb0 | hb0
                · subst hb0
                  by_cases hf : (FreeD (PS L g r) (dn g r) n ⟨y1, y2, y3, y4⟩ (0))
                  · skip
                    obtain ⟨by_, oy_, he9, hl9, l0, l1, l2, l3⟩ := (HL.out.below F8.out.bel (Nat.le_refl _)).four HGR.out
                    cases he9
                    rw [HLY.out] at l0 l1 l2 l3
                    dsimp only at l0 l1 l2 l3
                    go_wp2_with (go_at_call 13; refine (HFREE.out (0) (by omega) _ F8.out).mono ?_; rintro e w9 ⟨⟨B, rfl, hB⟩, hb⟩; obtain rfl : B = true := (by cases B with | true => rfl | false => exact absurd (hB.2 hf) (by decide)); have F9 := Lib.hid (F8.out.next hb); clear hB hb F8 l0 l1 l2 l3)
                    have HB2 := Lib.hid (BestAt.take HB.out (by omega) hf (.inl rfl) HCD.out)
                    go_roundw
                    case rel => exact ⟨(0 + 1), _, 0, rfl, rfl, by omega, by omega, HB2, F9⟩
                    case measure => (simp only [intOf]; omega)
                  · skip
                    obtain ⟨by_, oy_, he9, hl9, l0, l1, l2, l3⟩ := (HL.out.below F8.out.bel (Nat.le_refl _)).four HGR.out
                    cases he9
                    rw [HLY.out] at l0 l1 l2 l3
                    dsimp only at l0 l1 l2 l3
                    go_wp2_with (go_at_call 13; refine (HFREE.out (0) (by omega) _ F8.out).mono ?_; rintro e w9 ⟨⟨B, rfl, hB⟩, hb⟩; obtain rfl : B = false := (by cases B with | false => rfl | true => exact absurd (hB.1 rfl) hf); have F9 := Lib.hid (F8.out.next hb); clear hB hb F8 l0 l1 l2 l3)
                    have HB2 := Lib.hid (BestAt.keep HB.out (fun pq h9 => (HCD.out pq h9).elim .inl (fun e9 => .inr (.inl (by rw [e9]; exact hf)))))
                    go_roundw
                    case rel => exact ⟨(0 + 1), _, -1, rfl, rfl, by omega, by omega, HB2, F9⟩
                    case measure => (simp only [intOf]; omega)
                · skip
                  have hb1 : ¬ b < 0 := by omega
                  by_cases hqb : 0 < b
                  · skip
                    by_cases hf : (FreeD (PS L g r) (dn g r) n ⟨y1, y2, y3, y4⟩ (0))
                    · skip
                      obtain ⟨by_, oy_, he9, hl9, l0, l1, l2, l3⟩ := (HL.out.below F8.out.bel (Nat.le_refl _)).four HGR.out
                      cases he9
                      rw [HLY.out] at l0 l1 l2 l3
                      dsimp only at l0 l1 l2 l3
                      go_wp2_with (go_at_call 13; refine (HFREE.out (0) (by omega) _ F8.out).mono ?_; rintro e w9 ⟨⟨B, rfl, hB⟩, hb⟩; obtain rfl : B = true := (by cases B with | true => rfl | false => exact absurd (hB.2 hf) (by decide)); have F9 := Lib.hid (F8.out.next hb); clear hB hb F8 l0 l1 l2 l3)
                      have HB2 := Lib.hid (BestAt.take HB.out (by omega) hf (.inr hqb) HCD.out)
                      go_roundw
                      case rel => exact ⟨(0 + 1), _, 0, rfl, rfl, by omega, by omega, HB2, F9⟩
                      case measure => (simp only [intOf]; omega)
                    · skip
                      obtain ⟨by_, oy_, he9, hl9, l0, l1, l2, l3⟩ := (HL.out.below F8.out.bel (Nat.le_refl _)).four HGR.out
                      cases he9
                      rw [HLY.out] at l0 l1 l2 l3
                      dsimp only at l0 l1 l2 l3
                      go_wp2_with (go_at_call 13; refine (HFREE.out (0) (by omega) _ F8.out).mono ?_; rintro e w9 ⟨⟨B, rfl, hB⟩, hb⟩; obtain rfl : B = false := (by cases B with | false => rfl | true => exact absurd (hB.1 rfl) hf); have F9 := Lib.hid (F8.out.next hb); clear hB hb F8 l0 l1 l2 l3)
                      have HB2 := Lib.hid (BestAt.keep HB.out (fun pq h9 => (HCD.out pq h9).elim .inl (fun e9 => .inr (.inl (by rw [e9]; exact hf)))))
                      go_roundw
                      case rel => exact ⟨(0 + 1), _, b, rfl, rfl, by omega, by omega, HB2, F9⟩
                      case measure => (simp only [intOf]; omega)
                  · skip
                    go_wp2
                    have HB2 := Lib.hid (BestAt.keep HB.out (fun pq h9 => (HCD.out pq h9).elim .inl (fun e9 => .inr (.inr ⟨hb0, by omega⟩))))
                    go_roundw
                    case rel => exact ⟨(0 + 1), _, b, rfl, rfl, by omega, by omega, HB2, F8⟩
                    case measure => (simp only [intOf]; omega)
              · obtain ⟨i, rfl⟩ : ∃ i, j = i + 1 := ⟨j - 1, by omega⟩
                obtain rfl : z = (i : Int) := by omega
                clear hz
                have hii : i < n := by omega
                have HII := Lib.hid hii
                have hi0 : ¬ (i : Int) < 0 := by omega
                have hiN : (i : Int) < (n : Int) := by omega
                obtain ⟨⟨e1, e2, e3, e4⟩, hx⟩ : ∃ z, PS L g r i = z := ⟨_, rfl⟩
                obtain ⟨f0, f1, f2, f3⟩ := flat_four (PS L g r) hii
                rw [hx] at f2 f3
                have HF2 := Lib.hid f2
                have HF3 := Lib.hid f3
                have HX := Lib.hid hx
                obtain ⟨pz, hpz⟩ : ∃ z, IntKind.i64.wrap (e4 + e3) = z := ⟨_, rfl⟩
                have HPZ := Lib.hid hpz
                clear f0 f1 f2 f3 hx hpz
                go_upto_region 19 with fail
                refine wp_region_inv (w := wk) 12 (fun _ _ => True) (fun _ W => Fr w.heap.size w W [(p, flatB4 (PS L g r) n), (d, boolV (dn g r) n)] [] [] []) [] [(fun u _ => u = .slice (some ⟨p, 0, none⟩) n cp), (fun u _ => u = .int .i64 (i : Int)), (fun u _ => u = .pointer (some ⟨p, i * 4, none⟩)), (fun u _ => u = .pointer (some ⟨p, i * 4 + 3, none⟩)), (fun u _ => u = .int .i64 e4), (fun u _ => u = .slice (some ⟨p, 0, none⟩) n cp), (fun u _ => u = .int .i64 (i : Int)), (fun u _ => u = .pointer (some ⟨p, i * 4, none⟩)), (fun u _ => u = .pointer (some ⟨p, i * 4 + 2, none⟩)), (fun u _ => u = .int .i64 e3), (fun u _ => u = .int .i64 pz), (fun u _ => u = .int .i64 pz)] [some 61, some 62, some 63, some 64, some 65, some 66, some 67, some 68, some 69, some 70, some 71, some 12] (by kernel_rfl) (by kernel_rfl) rfl (by kernel_rfl) (by kernel_rfl) (by decide) (by decide) (fun _ _ => trivial) trivial F8.out.drew (BorneAll.at (.cons (borne_eq _) (.cons (borne_eq _) (.cons (borne_eq _) (.cons (borne_eq _) (.cons (borne_eq _) (.cons (borne_eq _) (.cons (borne_eq _) (.cons (borne_eq _) (.cons (borne_eq _) (.cons (borne_eq _) (.cons (borne_eq _) (.cons (borne_eq _) .nil))))))))))))) (fun vs b hvl hvb => ?_)
                obtain ⟨x0, x1, x2, x3, x4, x5, x6, x7, x8, x9, x10, x11, rfl⟩ : ∃ x0 x1 x2 x3 x4 x5 x6 x7 x8 x9 x10 x11, vs = [x0, x1, x2, x3, x4, x5, x6, x7, x8, x9, x10, x11] := le12 hvl
                clear hvl
                simp only [putAll, Act.put, List.setIfInBounds_toArray, List.set_cons_zero, List.set_cons_succ] at hvb
                subst hvb
                refine ⟨(.snoc (.snoc (.snoc (.snoc (.snoc (.snoc (.snoc (.snoc (.snoc (.snoc (.snoc (.snoc .zero (InvOb.intro (d := (some 61)) (r := fun u _ => u = .slice (some ⟨p, 0, none⟩) n cp) 0 0 rfl rfl rfl (by kernel_rfl) (by kernel_rfl) rfl ?io19x0)) (InvOb.intro (d := (some 62)) (r := fun u _ => u = .int .i64 (i : Int)) 0 0 rfl rfl rfl (by kernel_rfl) (by kernel_rfl) rfl ?io19x1)) (InvOb.intro (d := (some 63)) (r := fun u _ => u = .pointer (some ⟨p, i * 4, none⟩)) 0 0 rfl rfl rfl (by kernel_rfl) (by kernel_rfl) rfl ?io19x2)) (InvOb.intro (d := (some 64)) (r := fun u _ => u = .pointer (some ⟨p, i * 4 + 3, none⟩)) 0 0 rfl rfl rfl (by kernel_rfl) (by kernel_rfl) rfl ?io19x3)) (InvOb.intro (d := (some 65)) (r := fun u _ => u = .int .i64 e4) 0 0 rfl rfl rfl (by kernel_rfl) (by kernel_rfl) rfl ?io19x4)) (InvOb.intro (d := (some 66)) (r := fun u _ => u = .slice (some ⟨p, 0, none⟩) n cp) 0 0 rfl rfl rfl (by kernel_rfl) (by kernel_rfl) rfl ?io19x5)) (InvOb.intro (d := (some 67)) (r := fun u _ => u = .int .i64 (i : Int)) 0 0 rfl rfl rfl (by kernel_rfl) (by kernel_rfl) rfl ?io19x6)) (InvOb.intro (d := (some 68)) (r := fun u _ => u = .pointer (some ⟨p, i * 4, none⟩)) 0 0 rfl rfl rfl (by kernel_rfl) (by kernel_rfl) rfl ?io19x7)) (InvOb.intro (d := (some 69)) (r := fun u _ => u = .pointer (some ⟨p, i * 4 + 2, none⟩)) 0 0 rfl rfl rfl (by kernel_rfl) (by kernel_rfl) rfl ?io19x8)) (InvOb.intro (d := (some 70)) (r := fun u _ => u = .int .i64 e3) 0 0 rfl rfl rfl (by kernel_rfl) (by kernel_rfl) rfl ?io19x9)) (InvOb.intro (d := (some 71)) (r := fun u _ => u = .int .i64 pz) 0 0 rfl rfl rfl (by kernel_rfl) (by kernel_rfl) rfl ?io19x10)) (InvOb.intro (d := (some 12)) (r := fun u _ => u = .int .i64 pz) 0 0 rfl rfl rfl (by kernel_rfl) (by kernel_rfl) rfl ?io19x11)), ?iend19⟩
                case io19x0 =>
                  intro k1 w1 hk0 hk1 hb1 hS hd KK hK
                  clear hd
                  simp only [Act.put, List.setIfInBounds_toArray, List.set_cons_zero, List.set_cons_succ] at hK
                  go_simp
                  first | exact hK.out _ _ trivial hS rfl | (have hk := hK.out _ _ trivial hS rfl; revert hk; go_simp)
                case io19x1 =>
                  intro k1 w1 hk0 hk1 hb1 hS hd KK hK
                  clear hd
                  simp only [Act.put, List.setIfInBounds_toArray, List.set_cons_zero, List.set_cons_succ] at hK
                  go_simp
                  first | exact hK.out _ _ trivial hS rfl | (have hk := hK.out _ _ trivial hS rfl; revert hk; go_simp)
                case io19x2 =>
                  intro k1 w1 hk0 hk1 hb1 hS hd KK hK
                  have d0 : x0 = .slice (some ⟨p, 0, none⟩) n cp := hd 0 (by kernel_rfl)
                  have d1 : x1 = .int .i64 (i : Int) := hd 1 (by kernel_rfl)
                  clear hd
                  subst d0
                  subst d1
                  have g1 := hiN
                  have g2 := HII.out
                  simp only [Act.put, List.setIfInBounds_toArray, List.set_cons_zero, List.set_cons_succ] at hK
                  go_simp
                  first | exact hK.out _ _ trivial hS rfl | (have hk := hK.out _ _ trivial hS rfl; revert hk; go_simp)
                case io19x3 =>
                  intro k1 w1 hk0 hk1 hb1 hS hd KK hK
                  have d2 : x2 = .pointer (some ⟨p, i * 4, none⟩) := hd 2 (by kernel_rfl)
                  clear hd
                  subst d2
                  simp only [Act.put, List.setIfInBounds_toArray, List.set_cons_zero, List.set_cons_succ] at hK
                  go_simp
                  first | exact hK.out _ _ trivial hS rfl | (have hk := hK.out _ _ trivial hS rfl; revert hk; go_simp)
                case io19x4 =>
                  intro k1 w1 hk0 hk1 hb1 hS hd KK hK
                  have d3 : x3 = .pointer (some ⟨p, i * 4 + 3, none⟩) := hd 3 (by kernel_rfl)
                  clear hd
                  subst d3
                  have k0 := hS.c 0 _ rfl HF3.out
                  simp only [Act.put, List.setIfInBounds_toArray, List.set_cons_zero, List.set_cons_succ] at hK
                  go_simp
                  first | exact hK.out _ _ trivial hS rfl | (have hk := hK.out _ _ trivial hS rfl; revert hk; go_simp)
                case io19x5 =>
                  intro k1 w1 hk0 hk1 hb1 hS hd KK hK
                  clear hd
                  simp only [Act.put, List.setIfInBounds_toArray, List.set_cons_zero, List.set_cons_succ] at hK
                  go_simp
                  first | exact hK.out _ _ trivial hS rfl | (have hk := hK.out _ _ trivial hS rfl; revert hk; go_simp)
                case io19x6 =>
                  intro k1 w1 hk0 hk1 hb1 hS hd KK hK
                  clear hd
                  simp only [Act.put, List.setIfInBounds_toArray, List.set_cons_zero, List.set_cons_succ] at hK
                  go_simp
                  first | exact hK.out _ _ trivial hS rfl | (have hk := hK.out _ _ trivial hS rfl; revert hk; go_simp)
                case io19x7 =>
                  intro k1 w1 hk0 hk1 hb1 hS hd KK hK
                  have d5 : x5 = .slice (some ⟨p, 0, none⟩) n cp := hd 5 (by kernel_rfl)
                  have d6 : x6 = .int .i64 (i : Int) := hd 6 (by kernel_rfl)
                  clear hd
                  subst d5
                  subst d6
                  have g1 := hiN
                  have g2 := HII.out
                  simp only [Act.put, List.setIfInBounds_toArray, List.set_cons_zero, List.set_cons_succ] at hK
                  go_simp
                  first | exact hK.out _ _ trivial hS rfl | (have hk := hK.out _ _ trivial hS rfl; revert hk; go_simp)
                case io19x8 =>
                  intro k1 w1 hk0 hk1 hb1 hS hd KK hK
                  have d7 : x7 = .pointer (some ⟨p, i * 4, none⟩) := hd 7 (by kernel_rfl)
                  clear hd
                  subst d7
                  simp only [Act.put, List.setIfInBounds_toArray, List.set_cons_zero, List.set_cons_succ] at hK
                  go_simp
                  first | exact hK.out _ _ trivial hS rfl | (have hk := hK.out _ _ trivial hS rfl; revert hk; go_simp)
                case io19x9 =>
                  intro k1 w1 hk0 hk1 hb1 hS hd KK hK
                  have d8 : x8 = .pointer (some ⟨p, i * 4 + 2, none⟩) := hd 8 (by kernel_rfl)
                  clear hd
                  subst d8
                  have k0 := hS.c 0 _ rfl HF2.out
                  simp only [Act.put, List.setIfInBounds_toArray, List.set_cons_zero, List.set_cons_succ] at hK
                  go_simp
                  first | exact hK.out _ _ trivial hS rfl | (have hk := hK.out _ _ trivial hS rfl; revert hk; go_simp)
                case io19x10 =>
                  intro k1 w1 hk0 hk1 hb1 hS hd KK hK
                  have d4 : x4 = .int .i64 e4 := hd 4 (by kernel_rfl)
                  have d9 : x9 = .int .i64 e3 := hd 9 (by kernel_rfl)
                  clear hd
                  subst d4
                  subst d9
                  have dx := HPZ.out
                  simp only [Act.put, List.setIfInBounds_toArray, List.set_cons_zero, List.set_cons_succ] at hK
                  go_simp
                  first | exact hK.out _ _ trivial hS rfl | (have hk := hK.out _ _ trivial hS rfl; revert hk; go_simp)
                case io19x11 =>
                  intro k1 w1 hk0 hk1 hb1 hS hd KK hK
                  have d0 : x0 = .slice (some ⟨p, 0, none⟩) n cp := hd 0 (by kernel_rfl)
                  have d1 : x1 = .int .i64 (i : Int) := hd 1 (by kernel_rfl)
                  have d2 : x2 = .pointer (some ⟨p, i * 4, none⟩) := hd 2 (by kernel_rfl)
                  have d3 : x3 = .pointer (some ⟨p, i * 4 + 3, none⟩) := hd 3 (by kernel_rfl)
                  have d4 : x4 = .int .i64 e4 := hd 4 (by kernel_rfl)
                  have d5 : x5 = .slice (some ⟨p, 0, none⟩) n cp := hd 5 (by kernel_rfl)
                  have d6 : x6 = .int .i64 (i : Int) := hd 6 (by kernel_rfl)
                  have d7 : x7 = .pointer (some ⟨p, i * 4, none⟩) := hd 7 (by kernel_rfl)
                  have d8 : x8 = .pointer (some ⟨p, i * 4 + 2, none⟩) := hd 8 (by kernel_rfl)
                  have d9 : x9 = .int .i64 e3 := hd 9 (by kernel_rfl)
                  have d10 : x10 = .int .i64 pz := hd 10 (by kernel_rfl)
                  clear hd
                  subst d0
                  subst d1
                  subst d2
                  subst d3
                  subst d4
                  subst d5
                  subst d6
                  subst d7
                  subst d8
                  subst d9
                  subst d10
                  simp only [Act.put, List.setIfInBounds_toArray, List.set_cons_zero, List.set_cons_succ] at hK
                  go_simp
                  first | exact hK.out _ _ trivial hS rfl | (have hk := hK.out _ _ trivial hS rfl; revert hk; go_simp)
                case iend19 =>
                  intro w1 hb1 hS hR
                  have d0 : x0 = .slice (some ⟨p, 0, none⟩) n cp := hR 0 (by decide)
                  have d1 : x1 = .int .i64 (i : Int) := hR 1 (by decide)
                  have d2 : x2 = .pointer (some ⟨p, i * 4, none⟩) := hR 2 (by decide)
                  have d3 : x3 = .pointer (some ⟨p, i * 4 + 3, none⟩) := hR 3 (by decide)
                  have d4 : x4 = .int .i64 e4 := hR 4 (by decide)
                  have d5 : x5 = .slice (some ⟨p, 0, none⟩) n cp := hR 5 (by decide)
                  have d6 : x6 = .int .i64 (i : Int) := hR 6 (by decide)
                  have d7 : x7 = .pointer (some ⟨p, i * 4, none⟩) := hR 7 (by decide)
                  have d8 : x8 = .pointer (some ⟨p, i * 4 + 2, none⟩) := hR 8 (by decide)
                  have d9 : x9 = .int .i64 e3 := hR 9 (by decide)
                  have d10 : x10 = .int .i64 pz := hR 10 (by decide)
                  have d11 : x11 = .int .i64 pz := hR 11 (by decide)
                  clear hR
                  subst d0
                  subst d1
                  subst d2
                  subst d3
                  subst d4
                  subst d5
                  subst d6
                  subst d7
                  subst d8
                  subst d9
                  subst d10
                  subst d11
                  try simp only [putAll, Act.put, List.setIfInBounds_toArray, List.set_cons_zero, List.set_cons_succ]
                  have FA := Lib.hid hS
                  clear hS hb1 F8
                  obtain ⟨wz, rfl⟩ : ∃ x : World, x = w1 := ⟨_, rfl⟩
                  obtain ⟨dk, hdk⟩ : ∃ z, dn g r i = z := ⟨_, rfl⟩
                  have HDK := Lib.hid hdk
                  clear hdk
                  have dq := (FA.out.c 1 i rfl (boolV_get _ HII.out))
                  rw [HDK.out] at dq
                  cases dk with
                  | false =>
                    go_wp2
                    have HB2 := Lib.hid (BestAt.keep HB.out (fun pq h9 => .inl (cand_no (by omega) (by rw [Nat.add_sub_cancel]; exact HDK.out) h9)))
                    go_roundw
                    case rel => exact ⟨(i + 1 + 1), _, b, rfl, rfl, by omega, by omega, HB2, FA⟩
                    case measure => (simp only [intOf]; omega)
                  | true =>
                    have hpl : 0 ≤ e4 ∧ e4 ≤ 67108864 ∧ 1 ≤ e3 ∧ e3 ≤ 65536 := by
                      obtain ⟨m, hm, hmi⟩ := dn_iff.1 HDK.out
                      have h9 := plK_bd OG.out OK.out (k := m) (by omega)
                      have h8 := bufOk_iff.1 (OK.out.2 i HII.out)
                      have h7 := PS_stays (L := L) OG.out r hm (by omega)
                      rw [hmi, HX.out] at h7
                      have h6 : e4 = plK L g m := congrArg Buf.pl h7
                      have h5 : e3 = (L i).sz := congrArg Buf.sz h7
                      rw [h6, h5]; omega
                    obtain rfl : pz = e4 + e3 := by rw [← HPZ.out]; exact IntWalk.i64_in _ (by omega)
                    clear HPZ
                    have hcd : ∀ pq, CandL (PS L g r) (dn g r) (i + 1 + 1) pq → CandL (PS L g r) (dn g r) ((i + 1 + 1) - 1) pq ∨ pq = e4 + e3 := (fun pq h9 => (cand_yes (by omega) h9).imp id (fun e9 => by rw [e9, Nat.add_sub_cancel, HX.out]))
                    have HCD := Lib.hid hcd
                    clear hcd
                    rcases HB.out.range with hb0 | hb0
                    · subst hb0
                      by_cases hf : (FreeD (PS L g r) (dn g r) n ⟨y1, y2, y3, y4⟩ (e4 + e3))
                      · skip
                        obtain ⟨by_, oy_, he9, hl9, l0, l1, l2, l3⟩ := (HL.out.below FA.out.bel (Nat.le_refl _)).four HGR.out
                        cases he9
                        rw [HLY.out] at l0 l1 l2 l3
                        dsimp only at l0 l1 l2 l3
                        go_wp2_with (go_at_call 13; refine (HFREE.out (e4 + e3) (by omega) _ FA.out).mono ?_; rintro e w9 ⟨⟨B, rfl, hB⟩, hb⟩; obtain rfl : B = true := (by cases B with | true => rfl | false => exact absurd (hB.2 hf) (by decide)); have F9 := Lib.hid (FA.out.next hb); clear hB hb FA l0 l1 l2 l3)
                        have HB2 := Lib.hid (BestAt.take HB.out (by omega) hf (.inl rfl) HCD.out)
                        go_roundw
                        case rel => exact ⟨(i + 1 + 1), _, e4 + e3, rfl, rfl, by omega, by omega, HB2, F9⟩
                        case measure => (simp only [intOf]; omega)
                      · skip
                        obtain ⟨by_, oy_, he9, hl9, l0, l1, l2, l3⟩ := (HL.out.below FA.out.bel (Nat.le_refl _)).four HGR.out
                        cases he9
                        rw [HLY.out] at l0 l1 l2 l3
                        dsimp only at l0 l1 l2 l3
                        go_wp2_with (go_at_call 13; refine (HFREE.out (e4 + e3) (by omega) _ FA.out).mono ?_; rintro e w9 ⟨⟨B, rfl, hB⟩, hb⟩; obtain rfl : B = false := (by cases B with | false => rfl | true => exact absurd (hB.1 rfl) hf); have F9 := Lib.hid (FA.out.next hb); clear hB hb FA l0 l1 l2 l3)
                        have HB2 := Lib.hid (BestAt.keep HB.out (fun pq h9 => (HCD.out pq h9).elim .inl (fun e9 => .inr (.inl (by rw [e9]; exact hf)))))
                        go_roundw
                        case rel => exact ⟨(i + 1 + 1), _, -1, rfl, rfl, by omega, by omega, HB2, F9⟩
                        case measure => (simp only [intOf]; omega)
                    · skip
                      have hb1 : ¬ b < 0 := by omega
                      by_cases hqb : e4 + e3 < b
                      · skip
                        by_cases hf : (FreeD (PS L g r) (dn g r) n ⟨y1, y2, y3, y4⟩ (e4 + e3))
                        · skip
                          obtain ⟨by_, oy_, he9, hl9, l0, l1, l2, l3⟩ := (HL.out.below FA.out.bel (Nat.le_refl _)).four HGR.out
                          cases he9
                          rw [HLY.out] at l0 l1 l2 l3
                          dsimp only at l0 l1 l2 l3
                          go_wp2_with (go_at_call 13; refine (HFREE.out (e4 + e3) (by omega) _ FA.out).mono ?_; rintro e w9 ⟨⟨B, rfl, hB⟩, hb⟩; obtain rfl : B = true := (by cases B with | true => rfl | false => exact absurd (hB.2 hf) (by decide)); have F9 := Lib.hid (FA.out.next hb); clear hB hb FA l0 l1 l2 l3)
                          have HB2 := Lib.hid (BestAt.take HB.out (by omega) hf (.inr hqb) HCD.out)
                          go_roundw
                          case rel => exact ⟨(i + 1 + 1), _, e4 + e3, rfl, rfl, by omega, by omega, HB2, F9⟩
                          case measure => (simp only [intOf]; omega)
                        · skip
                          obtain ⟨by_, oy_, he9, hl9, l0, l1, l2, l3⟩ := (HL.out.below FA.out.bel (Nat.le_refl _)).four HGR.out
                          cases he9
                          rw [HLY.out] at l0 l1 l2 l3
                          dsimp only at l0 l1 l2 l3
                          go_wp2_with (go_at_call 13; refine (HFREE.out (e4 + e3) (by omega) _ FA.out).mono ?_; rintro e w9 ⟨⟨B, rfl, hB⟩, hb⟩; obtain rfl : B = false := (by cases B with | false => rfl | true => exact absurd (hB.1 rfl) hf); have F9 := Lib.hid (FA.out.next hb); clear hB hb FA l0 l1 l2 l3)
                          have HB2 := Lib.hid (BestAt.keep HB.out (fun pq h9 => (HCD.out pq h9).elim .inl (fun e9 => .inr (.inl (by rw [e9]; exact hf)))))
                          go_roundw
                          case rel => exact ⟨(i + 1 + 1), _, b, rfl, rfl, by omega, by omega, HB2, F9⟩
                          case measure => (simp only [intOf]; omega)
                      · skip
                        go_wp2
                        have HB2 := Lib.hid (BestAt.keep HB.out (fun pq h9 => (HCD.out pq h9).elim .inl (fun e9 => .inr (.inr ⟨hb0, by omega⟩))))
                        go_roundw
                        case rel => exact ⟨(i + 1 + 1), _, b, rfl, rfl, by omega, by omega, HB2, FA⟩
                        case measure => (simp only [intOf]; omega)
            · obtain rfl : j = n + 1 := by omega
              have hbb : b = plK L g r := by
                have h9 := HB.out
                rw [← HLY.out, ← HYG.out] at h9
                exact h9.done OG.out OK.out hlt
              have hzn : z = (n : Int) := by omega
              subst hzn
              clear hz
              obtain ⟨PV, hPV⟩ : ∃ z, plK L g r = z := ⟨_, rfl⟩
              rw [hPV] at hbb
              have hbb := hbb.symm
              subst hbb
              have HPV := Lib.hid hPV
              have hpvb := plK_bd OG.out OK.out hlt
              rw [hPV] at hpvb
              clear hPV HB
              obtain ⟨g0, g1, g2, g3⟩ := flat_four (PS L g r) hgr
              have m3 := F8.out.c 0 _ rfl g3
              have mf := F8.out.f 0 _ rfl g3
              have q1 := F8.out.c 1 y rfl (boolV_get _ hgr)
              have qf := F8.out.f 1 y rfl (boolV_get _ hgr)
              clear g0 g1 g2 g3
              have hput := flatB4_put (PS L g r) (n := n) (k := y) PV hgr
              have hnx := PS_next L g r
              rw [HYG.out, HPV.out] at hnx
              rw [hnx] at hput
              have F9 := Lib.hid (F8.out.setC 0 (y * 4 + 3) rfl (flatB4_ne _ HN.out) (.int .i64 PV))
              rw [hput] at F9
              simp only [List.set_cons_zero, List.set_cons_succ] at F9
              clear hput hnx q1 qf
              go_upto_region 23 with fail
              obtain ⟨wz, hwz⟩ : ∃ x, wk.setCell ⟨p, y * 4 + 3, none⟩ (.int .i64 PV) = x := ⟨_, rfl⟩
              rw [hwz] at F9 ⊢
              clear hwz F8 m3 mf
              have q1 := F9.out.c 1 y rfl (boolV_get _ hgr)
              have qf := F9.out.f 1 y rfl (boolV_get _ hgr)
              have FA := Lib.hid (F9.out.setC 1 y rfl (boolV_ne _ HN.out) (.bool true))
              rw [dn_set g r n hgr HYG.out] at FA
              simp only [List.set_cons_zero, List.set_cons_succ] at FA
              go_upto_region 24 with fail
              obtain ⟨wy, hwy⟩ : ∃ x, wz.setCell ⟨d, y, none⟩ (.bool true) = x := ⟨_, rfl⟩
              rw [hwy] at FA ⊢
              clear hwy F9 q1 qf
              obtain ⟨by_, oy_, he9, hl9, l0, l1, l2, l3⟩ := (HL.out.below FA.out.bel (Nat.le_refl _)).four HGR.out
              cases he9
              rw [HLY.out] at l0 l1 l2 l3
              dsimp only at l0 l1 l2 l3
              have hpk : pkK L g (r + 1) = if PK < PV + y3 then PV + y3 else PK := by rw [pkK, HPK.out, HPV.out, HYG.out, HLY.out]
              have HPK2 := Lib.hid hpk
              clear hpk
              by_cases hq : PK < PV + y3
              · skip
                have HQ2 := Lib.hid (show pkK L g (r + 1) = PV + y3 by rw [HPK2.out, if_pos hq])
                go_wp2
                go_roundw
                case rel => exact ⟨r + 1, by first | rfl | go_num, by rw [HQ2.out], by omega, FA⟩
                case measure => (simp only [intOf]; omega)
              · skip
                have HQ2 := Lib.hid (show pkK L g (r + 1) = PK by rw [HPK2.out, if_neg hq])
                go_wp2
                go_roundw
                case rel => exact ⟨r + 1, by first | rfl | go_num, by rw [HQ2.out], by omega, FA⟩
                case measure => (simp only [intOf]; omega)
    · obtain rfl : n = r := by omega
      go_wp2
      go_ret2
      exact ⟨p, cp, rfl, F5.out.less (.cons_cons _ (List.nil_sublist _)) (.refl _) (.refl _) (.refl _)⟩
end Go.Proofs.Ytdpnichgdfpmgaa
