/- XParts, with several late operations: values that are known, which the later ones need not wait for. -/
import Derived.Test.YtadlnmckcnfacaaParts
set_option linter.unusedVariables false
set_option linter.unusedSimpArgs false
namespace Go
open Go.RowKit
section
variable {P : Program} {ops : Array Oper} {Q : Exit → Act → World → Prop} {md : Region.Mode}
def partsChkL (md : Region.Mode) (ops : Array Oper) (n : Nat) (fls : List Nat) : Bool :=
  ((List.range n).all fun i => match ops[i]? with
    | some o => o.after.all fun e => !Region.binds md e || decide (e.on < i)
    | none => false) &&
  ((List.range ops.size).all fun i => decide (i < n) || ((List.range n).all fun j => fls.contains j || reaches md ops ops.size i j))
/-- The late ones: ready, and free, where all the others of the first n are listed (T2). -/
def lateChk (md : Region.Mode) (ops : Array Oper) (n : Nat) (fls : List Nat) (T2 : Array Bool) : Bool :=
  fls.all fun f => decide (f < n) && Region.free md ops T2 f && (Region.ready md ops T2).contains f
theorem free_mono {listed T2 : Array Bool} {i : Nat} (hl : ∀ j, j < ops.size → T2.getD j true = true → listed.getD j true = true) (h : Region.free md ops T2 i = true) : Region.free md ops listed i = true := by
  unfold Region.free at h ⊢
  cases ho : ops[i]? with
  | none => simp [ho] at h
  | some oi =>
    simp only [ho, List.all_eq_true, List.mem_range] at h ⊢
    intro j hj
    have h1 := h j hj
    simp only [Bool.or_eq_true] at h1 ⊢
    rcases h1 with (h1 | h1) | h1
    · exact .inl (.inl h1)
    · exact .inl (.inr (hl j hj h1))
    · exact .inr h1
theorem partsL_ready {n : Nat} {fls : List Nat} (hc : partsChkL md ops n fls = true) {listed : Array Bool} (hl : listed.size = ops.size) : ∀ i, i < n → listed.getD i false = false → Region.ready md ops listed ≠ [] := by
  intro i
  induction i using Nat.strongRecOn with
  | ind i ih =>
    intro hi hun hnil
    simp only [partsChkL, Bool.and_eq_true, List.all_eq_true, List.mem_range] at hc
    have h1 := hc.1 i hi
    cases ho : ops[i]? with
    | none => simp [ho] at h1
    | some o =>
      simp only [ho, Array.all_eq_true_iff_forall_mem, Bool.or_eq_true, Bool.not_eq_true', decide_eq_true_eq] at h1
      have hlt : i < ops.size := (Array.getElem?_eq_some_iff.1 ho).1
      by_cases hall : ∀ e ∈ o.after, Region.binds md e = true → listed.getD e.on false = true
      · have : i ∈ Region.ready md ops listed := mem_ready.2 ⟨by
          have hs : i < listed.size := by omega
          simp [hs] at hun ⊢
          exact hun, o, ho, hall⟩
        rw [hnil] at this
        cases this
      · have hex : ∃ e, e ∈ o.after ∧ Region.binds md e = true ∧ ¬ listed.getD e.on false = true := Classical.byContradiction fun hno => hall fun e he hb => Classical.byContradiction fun hn => hno ⟨e, he, hb, hn⟩
        obtain ⟨e, he, hb, hn⟩ := hex
        have h3 : e.on < i := (h1 e he).resolve_left (by simp [hb])
        exact ih e.on h3 (by omega) (by simpa using hn) hnil

theorem wpAny_partsL {n m : Nat} {fls : List Nat} {al : List Nat} {ds : List (Option Tmp)} {Rs : List (Value → World → Prop)} {W : World} {a : Act} {T T2 : Array Bool} (hds : ops.toList.map (·.dst) = ds) (hdist : distinctT ds = true) (hc : partsChkL md ops n fls = true) (hs : Region.noSelect ops = true) (hlate : lateChk md ops n fls T2 = true)
    (hnm : n + m = ops.size) (hT : T.toList = (List.range ops.size).map (fun i => decide (i < n))) (hT2 : T2.toList = (List.range ops.size).map (fun i => decide (i < n) && !(fls.contains i))) (hst : CarriesAll Rs) (hfal : ∀ f ∈ fls, al.contains f = false)
    (h : ∀ vs b, vs.length = ds.length → b = putAll ds vs a → PartObs P md ops Q Rs al W vs b n ∧
      (∀ w', Below W.heap.size W w' → (∀ i, i < n → claimed Rs i (vs.getD i undef) w') → (∀ i j, i < n → j < n → al.contains i = true → al.contains j = true → i ≠ j → vs.getD i undef ≠ vs.getD j undef) → wpAny P md ops Q m T b w') ∧
      (∀ f ∈ fls, ∀ w', Below W.heap.size W w' → (∀ i, i < n → fls.contains i = false → claimed Rs i (vs.getD i undef) w') → ∃ oi v, ops[f]? = some oi ∧ Yields P ops oi v b ∧ claimed Rs f v w' ∧ (∀ c a w, Q (.panic c) (a.put oi.dst v) w → Q (.panic c) a w))) :
    ∀ (k : Nat) (listed : Array Bool) (vs : List Value) (w' : World), k = ((List.range n).filter fun i => !listed.getD i false).length → listed.size = ops.size → (∀ i, n ≤ i → i < ops.size → listed.getD i false = false) → Closed md ops listed →
      vs.length = ds.length → Below W.heap.size W w' → (∀ i, i < n → listed.getD i false = true → claimed Rs i (vs.getD i undef) w') →
      (∀ i, i < n → listed.getD i false = true → al.contains i = true → ∃ b, vs.getD i undef = .pointer (some ⟨b, 0, none⟩) ∧ b < w'.heap.size) →
      (∀ i j, i < n → j < n → listed.getD i false = true → listed.getD j false = true → al.contains i = true → al.contains j = true → i ≠ j → vs.getD i undef ≠ vs.getD j undef) → wpAny P md ops Q (k + m) listed (putAll ds vs a) w' := by
  intro k
  induction k with
  | zero =>
    intro listed vs w' hk hl hpost hcl hv hb hR hA hD
    have hall : ∀ i, i < n → listed.getD i false = true := fun i hi => by
      cases hg : listed.getD i false with
      | true => rfl
      | false =>
        have : i ∈ (List.range n).filter fun i => !listed.getD i false := List.mem_filter.2 ⟨List.mem_range.2 hi, by rw [hg]; rfl⟩
        rw [List.length_eq_zero_iff.1 hk.symm] at this
        cases this
    have hlT : listed = T := listed_of (n := n) hl _ hT fun j hj => by
      by_cases hjn : j < n
      · rw [hall j hjn, decide_eq_true hjn]
      · rw [hpost j (by omega) (by omega), decide_eq_false hjn]
    subst hlT
    rw [Nat.zero_add]
    exact (h vs _ hv rfl).2.1 w' hb (fun i hi => hR i hi (hall i hi)) (fun i j hi hj => hD i j hi hj (hall i hi) (hall j hj))
  | succ k ih =>
    intro listed vs w' hk hl hpost hcl hv hb hR hA hD
    have step : ∀ (i : Nat) (o : Oper) (u : Value) (w'' : World), ops[i]? = some o → listed.getD i true = false → i < n → (∀ e ∈ o.after, Region.binds md e = true → listed.getD e.on false = true) → Below w'.heap.size w' w'' → claimed Rs i u w'' →
        (al.contains i = true → u = .pointer (some ⟨w'.heap.size, 0, none⟩) ∧ w'.heap.size < w''.heap.size) → wpAny P md ops Q (k + m) (listed.setIfInBounds i true) ((putAll ds vs a).put o.dst u) w'' := by
      intro i o u w'' ho hui hin hdep hb2 hRi hAi
      have hsz : i < ops.size := (Array.getElem?_eq_some_iff.1 ho).1
      have hds2 : ds[i]? = some o.dst := by
        rw [← hds]
        simp [hsz]
        have := (Array.getElem?_eq_some_iff.1 ho).2
        rw [this]
      rw [putAll_set ds vs a i o.dst u hdist hv hds2]
      have hil : i < listed.size := by omega
      have hset : ∀ j, (listed.setIfInBounds i true).getD j false = if j = i then true else listed.getD j false := fun j => by
        by_cases hj : j = i
        · subst hj; simp [hil]
        · rw [if_neg hj]
          simp [Array.getElem?_setIfInBounds_ne (Ne.symm hj)]
      have hui' : listed.getD i false = false := by
        simp [hil] at hui ⊢
        exact hui
      have hlt : i < vs.length := by
        rw [hv, ← hds]
        simp
        exact hsz
      have hvi : (vs.set i u).getD i undef = u := by simp [hlt]
      have hvn : ∀ j, j ≠ i → (vs.set i u).getD j undef = vs.getD j undef := fun j hj => by simp [Ne.symm hj]
      refine ih _ _ w'' ?_ (by simp [hl]) ?_ ?_ (by simp [hv]) (hb.trans (hb2.mono hb.size)) ?_ ?_ ?_
      · have hcount : ∀ (L : List Nat), L.Nodup → ((L.filter fun j => !(listed.setIfInBounds i true).getD j false).length + if i ∈ L then 1 else 0) = (L.filter fun j => !listed.getD j false).length := by
          intro L
          induction L with
          | nil => intro _; simp
          | cons x L ihL =>
            intro hnd
            have hnd2 := List.nodup_cons.1 hnd
            have hh := ihL hnd2.2
            by_cases hx : x = i
            · subst hx
              have hnot : ¬ x ∈ L := hnd2.1
              rw [if_neg hnot] at hh
              rw [if_pos List.mem_cons_self, List.filter_cons, List.filter_cons, hset x, if_pos rfl, hui']
              simp only [Bool.not_true, Bool.false_eq_true, if_false, Bool.not_false, if_true, List.length_cons]
              omega
            · have hmem : (i ∈ x :: L) ↔ i ∈ L := by simp [Ne.symm hx]
              rw [List.filter_cons, List.filter_cons, hset x, if_neg hx]
              simp only [hmem]
              split
              · simp only [List.length_cons]; omega
              · exact hh
        have := hcount (List.range n) List.nodup_range
        rw [if_pos (List.mem_range.2 hin)] at this
        omega
      · intro j hj hj2
        rw [hset j, if_neg (by omega)]
        exact hpost j hj hj2
      · intro j oj hoj hg e he hbd
        rw [hset]
        by_cases hei : e.on = i
        · rw [if_pos hei]
        · rw [if_neg hei]
          by_cases hji : j = i
          · subst hji
            rw [ho] at hoj
            injection hoj with hoj
            subst hoj
            exact hdep e he hbd
          · rw [hset j, if_neg hji] at hg
            exact hcl j oj hoj hg e he hbd
      · intro j hj hg
        by_cases hji : j = i
        · subst hji
          rw [hvi]
          exact hRi
        · rw [hset j, if_neg hji] at hg
          rw [hvn j hji]
          exact hst.at j _ _ _ (hR j hj hg) hb2
      · intro j hj hg hjal
        by_cases hji : j = i
        · subst hji
          obtain ⟨e1, e2⟩ := hAi hjal
          exact ⟨_, by rw [hvi]; exact e1, e2⟩
        · rw [hset j, if_neg hji] at hg
          obtain ⟨b, e1, e2⟩ := hA j hj hg hjal
          exact ⟨b, by rw [hvn j hji]; exact e1, Nat.lt_of_lt_of_le e2 hb2.size⟩
      · intro x y hx hy hgx hgy hxal hyal hne
        by_cases hxi : x = i
        · subst hxi
          have hyi : y ≠ x := Ne.symm hne
          rw [hset y, if_neg hyi] at hgy
          rw [hvi, hvn y hyi]
          obtain ⟨e1, e2⟩ := hAi hxal
          obtain ⟨b, e3, e4⟩ := hA y hy hgy hyal
          rw [e1, e3]
          intro he
          injection he with he
          injection he with he
          injection he with he
          omega
        · rw [hset x, if_neg hxi] at hgx
          rw [hvn x hxi]
          by_cases hyi : y = i
          · subst hyi
            rw [hvi]
            obtain ⟨e1, e2⟩ := hAi hyal
            obtain ⟨b, e3, e4⟩ := hA x hx hgx hxal
            rw [e1, e3]
            intro he
            injection he with he
            injection he with he
            injection he with he
            omega
          · rw [hset y, if_neg hyi] at hgy
            rw [hvn y hyi]
            exact hD x y hx hy hgx hgy hxal hyal hne
    by_cases hex : ∃ i, i < n ∧ listed.getD i false = false ∧ fls.contains i = false
    · obtain ⟨i0, hi0, hu0, hf0⟩ := hex
      have hrd := partsL_ready hc hl i0 hi0 hu0
      have hob := (h vs _ hv rfl).1
      rw [Nat.succ_add]
      refine ⟨fun h0 => absurd h0 hrd, fun i hi => ?_⟩
      obtain ⟨hui, o, ho, hdep⟩ := mem_ready.1 hi
      have hsz : i < ops.size := (Array.getElem?_eq_some_iff.1 ho).1
      have hin : i < n := by
        refine Classical.byContradiction fun hn => ?_
        simp only [partsChkL, Bool.and_eq_true, List.all_eq_true, List.mem_range] at hc
        have h2 := hc.2 i hsz
        simp only [hn, decide_false, Bool.false_or, List.all_eq_true, List.mem_range, Bool.or_eq_true] at h2
        rcases h2 i0 hi0 with h3 | h3
        · rw [hf0] at h3; cases h3
        · have := reaches_listed hcl _ i i0 o ho hdep h3
          rw [hu0] at this
          cases this
      refine wpOp_mono ?_ (hob.at i hin w' hb fun j hj => ?_)
      · rintro a'' w'' ⟨u, rfl, hb2, hRi, hAi⟩
        have hd : ((ops[i]?).bind (·.dst)) = o.dst := by rw [ho]; rfl
        rw [hd]
        exact step i o u w'' ho hui hin hdep hb2 hRi hAi
      · simp only [hangs, ho] at hj
        obtain ⟨e, he, hb2⟩ := Array.any_eq_true'.1 hj
        simp only [Bool.and_eq_true, beq_iff_eq] at hb2
        have h1 := hdep e he hb2.1
        rw [hb2.2] at h1
        have hjn : j < n := by
          refine Classical.byContradiction fun hn => ?_
          have : j < listed.size := by
            refine Classical.byContradiction fun hs => ?_
            simp [hs] at h1
          rw [hpost j (by omega) (by omega)] at h1
          cases h1
        exact hR j hjn h1
    · -- those that may be late are all that is left
      have hno : ∀ i, i < n → fls.contains i = false → listed.getD i false = true := fun i hi hf => by
        cases hg : listed.getD i false with
        | true => rfl
        | false => exact absurd ⟨i, hi, hg, hf⟩ hex
      have hne : ∃ i, i < n ∧ listed.getD i false = false := by
        cases hf : (List.range n).filter fun i => !listed.getD i false with
        | nil => rw [hf] at hk; simp at hk
        | cons i r =>
          have : i ∈ (List.range n).filter fun i => !listed.getD i false := by rw [hf]; exact List.mem_cons_self
          have := List.mem_filter.1 this
          exact ⟨i, List.mem_range.1 this.1, by simpa using this.2⟩
      obtain ⟨f, hf, huf⟩ := hne
      have hfc : fls.contains f = true := by
        cases hg : fls.contains f with
        | true => rfl
        | false => have := hno f hf hg; rw [huf] at this; cases this
      have hfm : f ∈ fls := by simpa using hfc
      have hT2s : T2.size = ops.size := by rw [← Array.length_toList, hT2]; simp
      have hT2g : ∀ j, j < ops.size → ∀ d, T2.getD j d = (decide (j < n) && !(fls.contains j)) := fun j hj d => by
        have h1 : j < T2.size := by omega
        have e3 : T2.toList[j]? = some T2[j] := by simp [h1]
        rw [hT2] at e3
        simp [hj] at e3
        simp [h1]
        exact e3.symm
      have hle : ∀ j, j < ops.size → T2.getD j true = true → listed.getD j true = true := fun j hj ht => by
        rw [hT2g j hj] at ht
        simp only [Bool.and_eq_true, decide_eq_true_eq, Bool.not_eq_true'] at ht
        have := hno j ht.1 ht.2
        have h2 : j < listed.size := by omega
        simp [h2] at this ⊢
        exact this
      have hlf := List.all_eq_true.1 hlate f hfm
      simp only [Bool.and_eq_true, decide_eq_true_eq] at hlf
      obtain ⟨⟨_, hfree⟩, hrdy⟩ := hlf
      obtain ⟨oi, v, hoi, hy, hcl2, hQp⟩ := (h vs _ hv rfl).2.2 f hfm w' hb (fun i hi hif => hR i hi (hno i hi hif))
      have hrdy2 : f ∈ Region.ready md ops T2 := by simpa using hrdy
      obtain ⟨_, o2, ho2, hdep2⟩ := mem_ready.1 hrdy2
      rw [hoi] at ho2
      injection ho2 with ho2
      subst ho2
      have hdep : ∀ e ∈ oi.after, Region.binds md e = true → listed.getD e.on false = true := fun e he hbd => by
        have h1 := hdep2 e he hbd
        have hs2 : e.on < T2.size := by
          refine Classical.byContradiction fun hs => ?_
          simp [hs] at h1
        rw [hT2g e.on (by omega)] at h1
        simp only [Bool.and_eq_true, decide_eq_true_eq, Bool.not_eq_true'] at h1
        exact hno e.on h1.1 h1.2
      have hun : listed.getD f true = false := by
        have h2 : f < listed.size := by omega
        simp [h2] at huf ⊢
        exact huf
      rw [Nat.succ_add]
      refine wpAny_take hoi hs (free_mono hle hfree) (by simpa using mem_ready.2 ⟨hun, oi, hoi, hdep⟩) hQp hy ?_
      exact step f oi v w' hoi hun hf hdep (Below.refl _ _) hcl2 (fun he => by rw [hfal f hfm] at he; cases he)

/-- A drawn region by its parts; fls: operations of known value that the later ones need not wait for; al: those that make a block. -/
theorem wp_region_partsL {id : Nat} {a : Act} {w : World} (n m : Nat) (fls : List Nat) (al : List Nat) (Rs : List (Value → World → Prop)) (ds : List (Option Tmp)) (T T2 : Array Bool) (hm : P.follows .mixedOrders = true) (hds : ops.toList.map (·.dst) = ds) (hdist : distinctT ds = true) (hc : partsChkL .any ops n fls = true) (hs : Region.noSelect ops = true) (hlate : lateChk .any ops n fls T2 = true)
    (hnm : n + m = ops.size) (hT : T.toList = (List.range ops.size).map (fun i => decide (i < n))) (hT2 : T2.toList = (List.range ops.size).map (fun i => decide (i < n) && !(fls.contains i))) (hst : CarriesAll Rs) (hfal : ∀ f ∈ fls, al.contains f = false)
    (h : ∀ vs b, vs.length = ds.length → b = putAll ds vs a → PartObs P .any ops Q Rs al w vs b n ∧
      (∀ w', Below w.heap.size w w' → (∀ i, i < n → claimed Rs i (vs.getD i undef) w') → (∀ i j, i < n → j < n → al.contains i = true → al.contains j = true → i ≠ j → vs.getD i undef ≠ vs.getD j undef) → wpAny P .any ops Q m T b w') ∧
      (∀ f ∈ fls, ∀ w', Below w.heap.size w w' → (∀ i, i < n → fls.contains i = false → claimed Rs i (vs.getD i undef) w') → ∃ oi v, ops[f]? = some oi ∧ Yields P ops oi v b ∧ claimed Rs f v w' ∧ (∀ c a w, Q (.panic c) (a.put oi.dst v) w → Q (.panic c) a w))) :
    (Code.region id ops true).wp P Q a w := by
  refine wp_region_any hm ?_
  obtain ⟨vs, hl, he⟩ := putAll_self ds a
  have hz : ∀ i, (Array.replicate ops.size false).getD i false = false := fun i => by
    by_cases hi : i < ops.size
    · simp [hi]
    · simp [hi]
  have hk : ((List.range n).filter fun i => !(Array.replicate ops.size false).getD i false).length = n := by
    have : ((List.range n).filter fun i => !(Array.replicate ops.size false).getD i false) = List.range n := by
      rw [List.filter_eq_self]
      intro i _
      rw [hz i]
      rfl
    rw [this, List.length_range]
  have := wpAny_partsL (P := P) (Q := Q) (W := w) (a := a) hds hdist hc hs hlate hnm hT hT2 hst hfal h n (Array.replicate ops.size false) vs { w with drawn := w.drawn + 1 } hk.symm (by simp) (fun i _ _ => hz i) (fun i o _ hg => by rw [hz i] at hg; cases hg) hl (Below.drew (Below.refl _ _)) (fun i _ hg => by rw [hz i] at hg; cases hg) (fun i _ hg => by rw [hz i] at hg; cases hg) (fun i _ _ _ hg => by rw [hz i] at hg; cases hg)
  rw [hnm, ← he] at this
  exact this
end
end Go
