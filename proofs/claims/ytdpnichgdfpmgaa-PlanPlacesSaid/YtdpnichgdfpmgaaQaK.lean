/- slices.SortFunc at buffers. -/
import Derived.Shelf.SlSortCmp.NoneTotal
import Derived.Test.YtdpnichgdfpmgaaChecked
import Derived.Test.YtdpnichgdfpmgaaFr
import Derived.Test.YtdpnichgdfpmgaaQbP
set_option linter.unusedVariables false
set_option linter.unusedSimpArgs false
namespace Go.Proofs.Ytdpnichgdfpmgaa
open Go.RowKit Go.Rt Go.Sort Go.Shelf
def Try.sortB_ren : Go.Shelf.Ren := ⟨fun | 6 => 20 | 15 => 26 | 14 => 25 | 28 => 38 | 29 => 39 | 20 => 30 | 21 => 31 | 22 => 32 | 23 => 33 | 24 => 34 | 25 => 35 | 26 => 36 | 27 => 37 | 46 => 41 | 47 => 42 | 48 => 43 | 49 => 44 | 50 => 45 | 57 => 47 | n => n, fun | 22 => 23 | 24 => 36 | 25 => 47 | 3 => 3 | 39 => 55 | 0 => 0 | 53 => 68 | 55 => 70 | 4 => 4 | 46 => 61 | 45 => 60 | 50 => 65 | 5 => 5 | 9 => 9 | 66 => 71 | 70 => 75 | 76 => 77 | 77 => 78 | n => n, fun | n => n⟩
theorem Try.sortB : Go.Proofs.SlLaysF0.n6 Try.prog Try.sortB_ren := {
  mixed := by kernel_rfl
  f6 := ⟨Try.f20.name, by decide, Try.func20.trans (congrArg some (by kernel_rfl))⟩
  f14 := ⟨Try.f25.name, by decide, Try.func25.trans (congrArg some (by kernel_rfl))⟩
  f15 := Try.func26.trans (congrArg some (by kernel_rfl))
  f20 := ⟨Try.f30.name, by decide, Try.func30.trans (congrArg some (by kernel_rfl))⟩
  f21 := ⟨Try.f31.name, by decide, Try.func31.trans (congrArg some (by kernel_rfl))⟩
  f22 := ⟨Try.f32.name, by decide, Try.func32.trans (congrArg some (by kernel_rfl))⟩
  f23 := ⟨Try.f33.name, by decide, Try.func33.trans (congrArg some (by kernel_rfl))⟩
  f24 := ⟨Try.f34.name, by decide, Try.func34.trans (congrArg some (by kernel_rfl))⟩
  f25 := ⟨Try.f35.name, by decide, Try.func35.trans (congrArg some (by kernel_rfl))⟩
  f26 := ⟨Try.f36.name, by decide, Try.func36.trans (congrArg some (by kernel_rfl))⟩
  f27 := ⟨Try.f37.name, by decide, Try.func37.trans (congrArg some (by kernel_rfl))⟩
  f28 := Try.func38.trans (congrArg some (by kernel_rfl))
  f29 := Try.func39.trans (congrArg some (by kernel_rfl))
  f46 := ⟨Try.f41.name, by decide, Try.func41.trans (congrArg some (by kernel_rfl))⟩
  f47 := Try.func42.trans (congrArg some (by kernel_rfl))
  f48 := Try.func43.trans (congrArg some (by kernel_rfl))
  f49 := ⟨Try.f44.name, by decide, Try.func44.trans (congrArg some (by kernel_rfl))⟩
  f50 := ⟨Try.f45.name, by decide, Try.func45.trans (congrArg some (by kernel_rfl))⟩
  f57 := ⟨Try.f47.name, by decide, Try.func47.trans (congrArg some (by kernel_rfl))⟩
  t0 := Try.underlying0
  a0 := Try.isAgg0
  z0 := Try.sizeOf0
  v0 := Try.zeroValue0
  t3 := Try.underlying3
  a3 := Try.isAgg3
  z3 := Try.sizeOf3
  v3 := Try.zeroValue3
  t4 := Try.underlying4
  a4 := Try.isAgg4
  z4 := Try.sizeOf4
  v4 := Try.zeroValue4
  t5 := Try.underlying5
  a5 := Try.isAgg5
  z5 := Try.sizeOf5
  v5 := Try.zeroValue5
  t9 := Try.underlying9
  a9 := Try.isAgg9
  z9 := Try.sizeOf9
  v9 := Try.zeroValue9
  t22 := Try.underlying23
  a22 := Try.isAgg23
  z22 := Try.sizeOf23
  v22 := Try.zeroValue23
  t25 := Try.underlying47
  a25 := Try.isAgg47
  z25 := Try.sizeOf47
  v25 := Try.zeroValue47
  t39 := Try.underlying55
  a39 := Try.isAgg55
  z39 := Try.sizeOf55
  v39 := Try.zeroValue55
  t45 := Try.underlying60
  a45 := Try.isAgg60
  z45 := Try.sizeOf60
  v45 := Try.zeroValue60
  t46 := Try.underlying61
  a46 := Try.isAgg61
  z46 := Try.sizeOf61
  v46 := Try.zeroValue61
  t50 := Try.underlying65
  a50 := Try.isAgg65
  z50 := Try.sizeOf65
  v50 := Try.zeroValue65
  t53 := Try.underlying68
  a53 := Try.isAgg68
  z53 := Try.sizeOf68
  v53 := Try.zeroValue68
  t55 := Try.underlying70
  a55 := Try.isAgg70
  z55 := Try.sizeOf70
  v55 := Try.zeroValue70
  t66 := Try.underlying71
  a66 := Try.isAgg71
  z66 := Try.sizeOf71
  v66 := Try.zeroValue71
  t70 := Try.underlying75
  a70 := Try.isAgg75
  z70 := Try.sizeOf75
  v70 := Try.zeroValue75
  t76 := Try.underlying77
  a76 := Try.isAgg77
  z76 := Try.sizeOf77
  v76 := Try.zeroValue77
  t77 := Try.underlying78
  a77 := Try.isAgg78
  z77 := Try.sizeOf78
  v77 := Try.zeroValue78 }

/-- A buffer whose place is no great number. -/
structure SBuf where
  b : Buf
  h0 : 0 ≤ b.pl
  h1 : b.pl ≤ 1000000000
instance : Inhabited SBuf := ⟨⟨⟨0, 0, 0, 0⟩, by decide, by decide⟩⟩
def encS (x : SBuf) : List Value := x.b.c
def cfS (x y : SBuf) : Int := x.b.pl - y.b.pl
theorem ltS (x y : SBuf) : Go.Proofs.ltOf cfS x y = decide (x.b.pl < y.b.pl) := by
  unfold Go.Proofs.ltOf cfS
  by_cases h : x.b.pl < y.b.pl
  · rw [decide_eq_true h, decide_eq_true (by omega)]
  · rw [decide_eq_false h, decide_eq_false (by omega)]
theorem swoS : SWO (Go.Proofs.ltOf cfS) where
  irrefl x := by rw [ltS]; simp
  trans x y z h1 h2 := by rw [ltS] at *; simp at *; omega
  ntrans x y z h1 h2 := by rw [ltS] at *; simp at *; omega
def toS (b : Buf) : SBuf := if h : 0 ≤ b.pl ∧ b.pl ≤ 1000000000 then ⟨b, h.1, h.2⟩ else default
theorem toS_b {b : Buf} (h : 0 ≤ b.pl ∧ b.pl ≤ 1000000000) : (toS b).b = b := by unfold toS; rw [dif_pos h]
theorem pcmpB (x y : SBuf) (W : World) : Calls Try.prog 21 #[.agg (encS x).toArray, .agg (encS y).toArray] W fun e w' => e = .returned (.int .i64 (cfS x y)) ∧ ∃ q os', w' = grow (W.drewN q) os' := by
  have h := x.h0
  have h2 := x.h1
  have h3 := y.h0
  have h4 := y.h1
  have hw : IntKind.i64.wrap (x.b.pl - y.b.pl) = x.b.pl - y.b.pl := IntWalk.i64_in _ (by omega)
  obtain ⟨⟨x1, x2, x3, x4⟩, _, _⟩ := x
  obtain ⟨⟨y1, y2, y3, y4⟩, _, _⟩ := y
  simp only [encS, Buf.c, cfS] at *
  go_enter Try.func21, Try.ntmps21
  go_wp2
  go_ret
  exact ⟨rfl, 0, _, by rw [alloc_eq_grow, alloc_eq_grow, grow_grow]; rfl⟩
theorem sortWorld_grown (w : World) (blk n : Nat) (d : Array SBuf) (os : Array Obj) (hb : blk < w.heap.size) : w.grownBy (Go.Proofs.sortWorldK encS 4 w blk 0 n d os) (some blk) := by
  refine ⟨rfl, rfl, rfl, ?_, fun k hk hne => ?_⟩
  · simp [Go.Proofs.sortWorldK, grow, putRowK, putRow, mapBlock, ahead]
  · have hne2 : blk ≠ k := fun e => hne (by rw [e])
    simp only [Go.Proofs.sortWorldK, grow, putRowK, putRow, mapBlock, ahead]
    rw [Array.getElem?_append_left (by simpa using hk), Array.getElem?_modify, if_neg hne2]
    rfl
/-- slices.SortFunc by the places. -/
theorem psortB_any (g m cap : Nat) (T : Nat → Buf) (w : World) (hm : 1 ≤ m) (hmb : m ≤ 1000000) (hc : ∀ i, i < m → ∀ j v, (T i).c[j]? = some v → w.cell? ⟨g, i * 4 + j, none⟩ = some v ∧ w.frozen? ⟨g, i * 4 + j, none⟩ = false) (hT : ∀ i, i < m → 0 ≤ (T i).pl ∧ (T i).pl ≤ 1000000000) :
    Calls Try.prog 20 #[.slice (some ⟨g, 0, none⟩) m cap, .func (.func 21) #[] #[]] w fun e w' => e = .returned (.tuple #[]) ∧ w.grownBy w' (some g) ∧ ∃ T' : Nat → Buf,
      (∀ c, (∃ i, i < m ∧ c = T' i) ↔ ∃ i, i < m ∧ c = T i) ∧ (∀ a b, a ≤ b → b < m → (T' a).pl ≤ (T' b).pl) ∧ ∀ i, i < m → ∀ j v, (T' i).c[j]? = some v → w'.cell? ⟨g, i * 4 + j, none⟩ = some v ∧ w'.frozen? ⟨g, i * 4 + j, none⟩ = false := by
  have hgl : g < w.heap.size := World.block_lt_of_cell? w _ (hc 0 (by omega) 0 _ rfl).1
  obtain ⟨d, hd⟩ : ∃ d : Array SBuf, d = (Array.range m).map fun i => toS (T i) := ⟨_, rfl⟩
  have hds : d.size = m := by rw [hd]; simp
  have hdg : ∀ i, i < m → d[i]! = toS (T i) := fun i hi => by rw [getElem!_pos d i (by omega)]; simp [hd]
  have hdb : ∀ i, i < m → (d[i]!).b = T i := fun i hi => by rw [hdg i hi, toS_b (hT i hi)]
  have hlen : ∀ x : SBuf, (encS x).length = 4 := fun x => rfl
  have hget : ∀ (x : SBuf) (j : Nat), j < 4 → x.b.c[j]? = some ((encS x)[j]!) := fun x j hj => by
    rw [List.getElem!_eq_getElem?_getD, List.getElem?_eq_getElem (by rw [show x.b.c.length = 4 from rfl]; exact hj)]
    rw [show (encS x)[j]? = x.b.c[j]? from rfl, List.getElem?_eq_getElem (by rw [show x.b.c.length = 4 from rfl]; exact hj)]
    rfl
  have hH : HoldsK encS 4 w g 0 d := fun j hj => by
    rw [size_flatK, hds] at hj
    rw [get_flatK _ _ _ _ (by rw [hds]; exact hj)]
    have h1 : j / 4 < m := by omega
    have h2 := hc (j / 4) h1 (j % 4) _ (by rw [← hdb _ h1]; exact hget _ _ (Nat.mod_lt _ (by decide)))
    rw [show 0 + j = j / 4 * 4 + j % 4 by omega]
    exact h2
  have eg : ∀ args w, (callFunc 21 args).run Try.prog w = .ok (.enter 21 args) w := enters_of Try.func21 (by kernel_rfl) rfl
  have hcon := Go.Proofs.AnyQ.slices_SortFunc Try.sortB 4 Try.isAgg36 Try.sizeOf36 encS hlen (fun x v hv => by simp [encS, Buf.c] at hv; rcases hv with rfl | rfl | rfl | rfl <;> rfl) cfS swoS 21 #[] g 0 cap d w eg (fun _ _ _ _ x y => pcmpB x y _) hH hgl (by omega)
  rw [hds] at hcon
  refine hcon.mono ?_
  rintro e w' ⟨he, d', n, os, hp, hs, rfl⟩
  have hd's : d'.size = m := by rw [hp.1, hds]
  have hH2 : HoldsK encS 4 (Go.Proofs.sortWorldK encS 4 w g 0 n d' os) g 0 d' := by
    unfold Go.Proofs.sortWorldK
    refine holdsK_grow encS 4 _ os g 0 d' (by simpa [putRowK, putRow, mapBlock, ahead] using hgl) ?_
    exact holdsK_putRowK encS 4 (Go.Sort.ahead w n) g 0 d d' (holdsK_ahead encS 4 w n g 0 d hH) (by rw [hd's, hds])
  refine ⟨he, sortWorld_grown w g n d' os hgl, fun i => (d'[i]!).b, fun c => ?_, fun a b hab hb => ?_, fun i hi j v hv => ?_⟩
  · have hperm := hp.2.2
    have e1 : d'.extract 0 m = d' := by rw [← hd's]; simp
    have e2 : d.extract 0 m = d := by rw [← hds]; simp
    rw [e1, e2] at hperm
    have hmem : ∀ x, x ∈ d' ↔ x ∈ d := fun x => by simpa using hperm.mem_iff (a := x)
    constructor
    · rintro ⟨i, hi, rfl⟩
      have h1 : d'[i]! ∈ d' := by rw [getElem!_pos d' i (by omega)]; exact Array.getElem_mem _
      obtain ⟨k, hk, ek⟩ := Array.mem_iff_getElem.1 ((hmem _).1 h1)
      refine ⟨k, by omega, ?_⟩
      show (d'[i]!).b = T k
      rw [← ek, ← hdb k (by omega), getElem!_pos d k hk]
    · rintro ⟨i, hi, rfl⟩
      have h1 : d[i]! ∈ d := by rw [getElem!_pos d i (by omega)]; exact Array.getElem_mem _
      obtain ⟨k, hk, ek⟩ := Array.mem_iff_getElem.1 ((hmem _).2 h1)
      refine ⟨k, by omega, ?_⟩
      show T i = (d'[k]!).b
      rw [← hdb i hi, ← ek, getElem!_pos d' k hk]
  · rcases Nat.lt_or_ge a b with c | c
    · have h1 := hs a b (Nat.zero_le _) c hb
      rw [ltS] at h1
      simpa using h1
    · rw [show a = b by omega]; exact Int.le_refl _
  · have hj : j < 4 := by
      have := (List.getElem?_eq_some_iff.1 hv).1
      exact this
    have h1 := hH2.cell (i := i) (c := j) (by omega) hj
    rw [hget _ _ hj] at hv
    injection hv with hv
    rw [Nat.zero_add, hv] at h1
    exact h1
theorem psortB_none (p : Option Addr) (cap : Nat) (w : World) :
    Calls Try.prog 20 #[.slice p 0 cap, .func (.func 21) #[] #[]] w fun e w' => e = .returned (.tuple #[]) ∧ w' = w :=
  Go.Proofs.AnyF.slices_SortFunc_none Try.sortB p cap (.func (.func 21) #[] #[]) w
end Go.Proofs.Ytdpnichgdfpmgaa
