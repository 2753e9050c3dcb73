/- A drawn region, operation by operation, each shown ONCE, whatever the order: a value's claim is carried along by what calls leave alone. -/
import Derived.Deep.RegionHeld3
import Derived.Below
set_option linter.unusedVariables false
set_option linter.unusedSimpArgs false
namespace Go
open Go.RowKit
section
variable {P : Program} {ops : Array Oper} {Q : Exit → Act → World → Prop} {md : Region.Mode}

/-- Values laid into temporaries, one by one. -/
def putAll : List (Option Tmp) → List Value → Act → Act
  | d :: ds, x :: xs, a => putAll ds xs (a.put d x)
  | _, _, a => a
def distinctT : List (Option Tmp) → Bool
  | [] => true
  | d :: r => (d.isNone || !r.contains d) && distinctT r
theorem put_again (a : Act) (d : Option Tmp) (x u : Value) : (a.put d x).put d u = a.put d u := by
  cases d with
  | none => rfl
  | some t => simp [Act.put]
theorem putAll_comm : ∀ (ds : List (Option Tmp)) (vs : List Value) (a : Act) (d : Option Tmp) (u : Value), (d.isNone || !ds.contains d) = true → (putAll ds vs a).put d u = putAll ds vs (a.put d u)
  | [], _, _, _, _, _ => rfl
  | _ :: _, [], _, _, _, _ => rfl
  | e :: ds, x :: xs, a, d, u, h => by
    have h1 : ∀ t, e = some t → d ≠ some t := fun t he hd => by
      subst he hd
      simp at h
    have h2 : (d.isNone || !ds.contains d) = true := by
      cases d with
      | none => rfl
      | some t =>
        simp at h ⊢
        exact h.2
    show (putAll ds xs (a.put e x)).put d u = putAll ds xs ((a.put d u).put e x)
    rw [putAll_comm ds xs _ d u h2, Act.put_comm a x u h1]
theorem putAll_set : ∀ (ds : List (Option Tmp)) (vs : List Value) (a : Act) (i : Nat) (d : Option Tmp) (u : Value), distinctT ds = true → vs.length = ds.length → ds[i]? = some d → (putAll ds vs a).put d u = putAll ds (vs.set i u) a
  | [], _, _, _, _, _, _, _, h => by simp at h
  | e :: ds, [], _, _, _, _, _, hl, _ => by simp at hl
  | e :: ds, x :: xs, a, 0, d, u, hd, hl, hi => by
    simp at hi
    subst hi
    simp only [distinctT, Bool.and_eq_true] at hd
    show (putAll ds xs (a.put e x)).put e u = putAll ds xs (a.put e u)
    rw [putAll_comm ds xs _ e u hd.1, put_again]
  | e :: ds, x :: xs, a, i + 1, d, u, hd, hl, hi => by
    simp only [distinctT, Bool.and_eq_true] at hd
    exact putAll_set ds xs _ i d u hd.2 (by simpa using hl) (by simpa using hi)
theorem putAll_self : ∀ (ds : List (Option Tmp)) (a : Act), ∃ vs, vs.length = ds.length ∧ a = putAll ds vs a
  | [], a => ⟨[], rfl, rfl⟩
  | d :: ds, a => by
    obtain ⟨vs, hl, he⟩ := putAll_self ds a
    have : ∃ x, a.put d x = a := by
      cases d with
      | none => exact ⟨undef, rfl⟩
      | some t =>
        refine ⟨a.tmps.getD t undef, ?_⟩
        have : a.tmps.setIfInBounds t (a.tmps.getD t undef) = a.tmps := by
          apply Array.ext
          · simp
          · intro j h1 h2
            by_cases hj : t = j
            · subst hj
              simp [h2]
            · exact Array.getElem_setIfInBounds_ne h2 hj
        unfold Act.put
        simp only [this]
    obtain ⟨x, hx⟩ := this
    exact ⟨x :: vs, by simp [hl], by show a = putAll ds vs (a.put d x); rw [hx]; exact he⟩

/-- Operation i hangs on operation j, directly or by others. -/
def reaches (md : Region.Mode) (ops : Array Oper) : Nat → Nat → Nat → Bool
  | 0, _, _ => false
  | fuel + 1, i, j => match ops[i]? with
    | some o => o.after.any fun e => Region.binds md e && (e.on == j || reaches md ops fuel e.on j)
    | none => false
/-- The first n operations hang on earlier ones alone, and each later one hangs on all of these (but on fl, if there is one). -/
def partsChk (md : Region.Mode) (ops : Array Oper) (n : Nat) (fl : Option Nat) : Bool :=
  ((List.range n).all fun i => match ops[i]? with
    | some o => o.after.all fun e => !Region.binds md e || decide (e.on < i)
    | none => false) &&
  ((List.range ops.size).all fun i => decide (i < n) || ((List.range n).all fun j => fl == some j || reaches md ops ops.size i j))
def hangs (md : Region.Mode) (ops : Array Oper) (i j : Nat) : Bool :=
  match ops[i]? with
  | some o => o.after.any fun e => Region.binds md e && e.on == j
  | none => false
/-- What is claimed of operation i's value. -/
def claimed (Rs : List (Value → World → Prop)) (i : Nat) : Value → World → Prop := Rs.getD i (fun _ _ => True)
/-- A claim that is carried along. -/
def Carries (r : Value → World → Prop) : Prop := ∀ u w w', r u w → Below w.heap.size w w' → r u w'
inductive CarriesAll : List (Value → World → Prop) → Prop
  | nil : CarriesAll []
  | cons {r : Value → World → Prop} {rs : List (Value → World → Prop)} : Carries r → CarriesAll rs → CarriesAll (r :: rs)
theorem CarriesAll.at : ∀ {Rs : List (Value → World → Prop)}, CarriesAll Rs → ∀ i, Carries (claimed Rs i)
  | _, .nil, i => fun _ _ _ _ _ => by simp [claimed]
  | _, .cons h _, 0 => h
  | _, .cons (r := r) (rs := rs) _ hs, i + 1 => by
    have := hs.at i
    simpa [claimed] using this

/-- Operation i, in whatever world that the others may have left. al: the operations that make a block. -/
def PartOb (P : Program) (md : Region.Mode) (ops : Array Oper) (Q : Exit → Act → World → Prop) (Rs : List (Value → World → Prop)) (al : List Nat) (W : World) (vs : List Value) (b : Act) (i : Nat) : Prop :=
  ∀ w', Below W.heap.size W w' → (∀ j, hangs md ops i j = true → claimed Rs j (vs.getD j undef) w') →
    wpOp P ops Q i (fun a'' w'' => ∃ u, a'' = b.put ((ops[i]?).bind (·.dst)) u ∧ Below w'.heap.size w' w'' ∧ claimed Rs i u w'' ∧ (al.contains i = true → u = .pointer (some ⟨w'.heap.size, 0, none⟩) ∧ w'.heap.size < w''.heap.size)) b w'
theorem PartOb.intro {Rs : List (Value → World → Prop)} {al : List Nat} {W : World} {vs : List Value} {b : Act} {i : Nat} {o : Oper} {d : Option Tmp} {r : Value → World → Prop} (ho : ops[i]? = some o) (hd : o.dst = d) (hr : claimed Rs i = r) (hal : al.contains i = false)
    (h : ∀ w', Below W.heap.size W w' → (∀ j, hangs md ops i j = true → claimed Rs j (vs.getD j undef) w') → ∀ K : Act → World → Prop,
      Shut (∀ u w'', Below w'.heap.size w' w'' → r u w'' → K (b.put d u) w'') → if Region.wanted o (yielded ops b.tmps) = true then Oper.wp P o b w' K Q else K (b.put d undef) w') :
    PartOb P md ops Q Rs al W vs b i := fun w' hb hdd => by
  subst hd
  refine wpOp_step ho fun K hK => h w' hb hdd K fun u w'' h1 h2 => hK _ _ ⟨u, ?_, h1, ?_, fun he => ?_⟩
  · rw [ho]; rfl
  · rw [hr]; exact h2
  · rw [hal] at he; cases he
theorem PartOb.made {Rs : List (Value → World → Prop)} {al : List Nat} {W : World} {vs : List Value} {b : Act} {i : Nat} {o : Oper} {d : Option Tmp} {r : Value → World → Prop} (ho : ops[i]? = some o) (hd : o.dst = d) (hr : claimed Rs i = r)
    (h : ∀ w', Below W.heap.size W w' → (∀ j, hangs md ops i j = true → claimed Rs j (vs.getD j undef) w') → ∀ K : Act → World → Prop,
      Shut (∀ w'', Below w'.heap.size w' w'' → w'.heap.size < w''.heap.size → r (.pointer (some ⟨w'.heap.size, 0, none⟩)) w'' → K (b.put d (.pointer (some ⟨w'.heap.size, 0, none⟩))) w'') → if Region.wanted o (yielded ops b.tmps) = true then Oper.wp P o b w' K Q else K (b.put d undef) w') :
    PartOb P md ops Q Rs al W vs b i := fun w' hb hdd => by
  subst hd
  refine wpOp_step ho fun K hK => h w' hb hdd K fun w'' h1 h3 h2 => hK _ _ ⟨_, ?_, h1, ?_, fun _ => ⟨rfl, h3⟩⟩
  · rw [ho]; rfl
  · rw [hr]; exact h2
inductive PartObs (P : Program) (md : Region.Mode) (ops : Array Oper) (Q : Exit → Act → World → Prop) (Rs : List (Value → World → Prop)) (al : List Nat) (W : World) (vs : List Value) (b : Act) : Nat → Prop
  | zero : PartObs P md ops Q Rs al W vs b 0
  | snoc {n : Nat} : PartObs P md ops Q Rs al W vs b n → PartOb P md ops Q Rs al W vs b n → PartObs P md ops Q Rs al W vs b (n + 1)
theorem PartObs.at {Rs : List (Value → World → Prop)} {al : List Nat} {W : World} {vs : List Value} {b : Act} : ∀ {n : Nat}, PartObs P md ops Q Rs al W vs b n → ∀ i, i < n → PartOb P md ops Q Rs al W vs b i
  | _, .zero, i, h => absurd h (Nat.not_lt_zero _)
  | n + 1, .snoc hs h, i, hi => by
    by_cases he : i = n
    · subst he; exact h
    · exact hs.at i (by omega)

theorem parts_ready {n : Nat} {fl : Option Nat} (hc : partsChk md ops n fl = true) {listed : Array Bool} (hl : listed.size = ops.size) : ∀ i, i < n → listed.getD i false = false → Region.ready md ops listed ≠ [] := by
  intro i
  induction i using Nat.strongRecOn with
  | ind i ih =>
    intro hi hun hnil
    simp only [partsChk, Bool.and_eq_true, List.all_eq_true, List.mem_range] at hc
    have h1 := hc.1 i hi
    cases ho : ops[i]? with
    | none => simp [ho] at h1
    | some o =>
      simp only [ho, Array.all_eq_true_iff_forall_mem, Bool.or_eq_true, Bool.not_eq_true', decide_eq_true_eq] at h1
      have hlt : i < ops.size := (Array.getElem?_eq_some_iff.1 ho).1
      by_cases hall : ∀ e ∈ o.after, Region.binds md e = true → listed.getD e.on false = true
      · have : i ∈ Region.ready md ops listed := mem_ready.2 ⟨by
          have hs : i < listed.size := by omega
          simp [hs] at hun ⊢
          exact hun, o, ho, hall⟩
        rw [hnil] at this
        cases this
      · have hex : ∃ e, e ∈ o.after ∧ Region.binds md e = true ∧ ¬ listed.getD e.on false = true := Classical.byContradiction fun hno => hall fun e he hb => Classical.byContradiction fun hn => hno ⟨e, he, hb, hn⟩
        obtain ⟨e, he, hb, hn⟩ := hex
        have h3 : e.on < i := (h1 e he).resolve_left (by simp [hb])
        exact ih e.on h3 (by omega) (by simpa using hn) hnil
/-- What is listed is listed with all that it hangs on. -/
def Closed (md : Region.Mode) (ops : Array Oper) (listed : Array Bool) : Prop := ∀ i o, ops[i]? = some o → listed.getD i false = true → ∀ e ∈ o.after, Region.binds md e = true → listed.getD e.on false = true
theorem reaches_listed {listed : Array Bool} (hcl : Closed md ops listed) : ∀ fuel i j o, ops[i]? = some o → (∀ e ∈ o.after, Region.binds md e = true → listed.getD e.on false = true) → reaches md ops fuel i j = true → listed.getD j false = true
  | 0, _, _, _, _, _, h => by simp [reaches] at h
  | fuel + 1, i, j, o, ho, hd, h => by
    simp only [reaches, ho] at h
    obtain ⟨e, he, hb⟩ := Array.any_eq_true'.1 h
    simp only [Bool.and_eq_true, Bool.or_eq_true, beq_iff_eq] at hb
    have h1 := hd e he hb.1
    rcases hb.2 with h2 | h2
    · rw [← h2]; exact h1
    · cases ho2 : ops[e.on]? with
      | none =>
        cases fuel with
        | zero => simp [reaches] at h2
        | succ f => simp [reaches, ho2] at h2
      | some o2 => exact reaches_listed hcl fuel e.on j o2 ho2 (hcl e.on o2 ho2 h1) h2

theorem listed_of {n size : Nat} {listed T : Array Bool} (hl : listed.size = size) (p : Nat → Bool) (hT : T.toList = (List.range size).map p) (h : ∀ i, i < size → listed.getD i false = p i) : listed = T := by
  have hTs : T.size = size := by rw [← Array.length_toList, hT]; simp
  apply Array.ext
  · rw [hl, hTs]
  · intro j h1 h2
    have e2 : T[j] = p j := by
      have e3 : T.toList[j]? = some T[j] := by simp [h2]
      rw [hT] at e3
      have hj : j < size := by omega
      simp [hj] at e3
      exact e3.symm
    rw [e2, ← h j (by omega)]
    simp [h1]

theorem wpAny_parts {n m : Nat} {fl : Option Nat} {al : List Nat} {ds : List (Option Tmp)} {Rs : List (Value → World → Prop)} {W : World} {a : Act} {T T2 : Array Bool} (hds : ops.toList.map (·.dst) = ds) (hdist : distinctT ds = true) (hc : partsChk md ops n fl = true)
    (hnm : n + m = ops.size) (hT : T.toList = (List.range ops.size).map (fun i => decide (i < n))) (hT2 : T2.toList = (List.range ops.size).map (fun i => decide (i < n) && !(fl == some i))) (hst : CarriesAll Rs)
    (h : ∀ vs b, vs.length = ds.length → b = putAll ds vs a → PartObs P md ops Q Rs al W vs b n ∧
      (∀ w', Below W.heap.size W w' → (∀ i, i < n → claimed Rs i (vs.getD i undef) w') → (∀ i j, i < n → j < n → al.contains i = true → al.contains j = true → i ≠ j → vs.getD i undef ≠ vs.getD j undef) → wpAny P md ops Q m T b w') ∧
      (∀ f, fl = some f → f < n → ∀ w', Below W.heap.size W w' → (∀ i, i < n → i ≠ f → claimed Rs i (vs.getD i undef) w') → (∀ i j, i < n → j < n → i ≠ f → j ≠ f → al.contains i = true → al.contains j = true → i ≠ j → vs.getD i undef ≠ vs.getD j undef) → wpAny P md ops Q (m + 1) T2 b w')) :
    ∀ (k : Nat) (listed : Array Bool) (vs : List Value) (w' : World), k = ((List.range n).filter fun i => !listed.getD i false).length → listed.size = ops.size → (∀ i, n ≤ i → i < ops.size → listed.getD i false = false) → Closed md ops listed →
      vs.length = ds.length → Below W.heap.size W w' → (∀ i, i < n → listed.getD i false = true → claimed Rs i (vs.getD i undef) w') →
      (∀ i, i < n → listed.getD i false = true → al.contains i = true → ∃ b, vs.getD i undef = .pointer (some ⟨b, 0, none⟩) ∧ b < w'.heap.size) →
      (∀ i j, i < n → j < n → listed.getD i false = true → listed.getD j false = true → al.contains i = true → al.contains j = true → i ≠ j → vs.getD i undef ≠ vs.getD j undef) → wpAny P md ops Q (k + m) listed (putAll ds vs a) w' := by
  intro k
  induction k with
  | zero =>
    intro listed vs w' hk hl hpost hcl hv hb hR hA hD
    have hall : ∀ i, i < n → listed.getD i false = true := fun i hi => by
      cases hg : listed.getD i false with
      | true => rfl
      | false =>
        have : i ∈ (List.range n).filter fun i => !listed.getD i false := List.mem_filter.2 ⟨List.mem_range.2 hi, by rw [hg]; rfl⟩
        rw [List.length_eq_zero_iff.1 hk.symm] at this
        cases this
    have hlT : listed = T := listed_of (n := n) hl _ hT fun j hj => by
      by_cases hjn : j < n
      · rw [hall j hjn, decide_eq_true hjn]
      · rw [hpost j (by omega) (by omega), decide_eq_false hjn]
    subst hlT
    rw [Nat.zero_add]
    exact (h vs _ hv rfl).2.1 w' hb (fun i hi => hR i hi (hall i hi)) (fun i j hi hj => hD i j hi hj (hall i hi) (hall j hj))
  | succ k ih =>
    intro listed vs w' hk hl hpost hcl hv hb hR hA hD
    by_cases hex : ∃ i, i < n ∧ listed.getD i false = false ∧ fl ≠ some i
    · obtain ⟨i0, hi0, hu0, hf0⟩ := hex
      have hrd := parts_ready hc hl i0 hi0 hu0
      have hob := (h vs _ hv rfl).1
      rw [Nat.succ_add]
      refine ⟨fun h0 => absurd h0 hrd, fun i hi => ?_⟩
      obtain ⟨hui, o, ho, hdep⟩ := mem_ready.1 hi
      have hsz : i < ops.size := (Array.getElem?_eq_some_iff.1 ho).1
      have hin : i < n := by
        refine Classical.byContradiction fun hn => ?_
        simp only [partsChk, Bool.and_eq_true, List.all_eq_true, List.mem_range] at hc
        have h2 := hc.2 i hsz
        simp only [hn, decide_false, Bool.false_or, List.all_eq_true, List.mem_range, Bool.or_eq_true, beq_iff_eq] at h2
        rcases h2 i0 hi0 with h3 | h3
        · exact hf0 h3
        · have := reaches_listed hcl _ i i0 o ho hdep h3
          rw [hu0] at this
          cases this
      refine wpOp_mono ?_ (hob.at i hin w' hb fun j hj => ?_)
      · rintro a'' w'' ⟨u, rfl, hb2, hRi, hAi⟩
        have hds2 : ds[i]? = some o.dst := by
          rw [← hds]
          simp [hsz]
          have := (Array.getElem?_eq_some_iff.1 ho).2
          rw [this]
        have hd : ((ops[i]?).bind (·.dst)) = o.dst := by rw [ho]; rfl
        rw [hd, putAll_set ds vs a i o.dst u hdist hv hds2]
        have hil : i < listed.size := by omega
        have hset : ∀ j, (listed.setIfInBounds i true).getD j false = if j = i then true else listed.getD j false := fun j => by
          by_cases hj : j = i
          · subst hj; simp [hil]
          · rw [if_neg hj]
            simp [Array.getElem?_setIfInBounds_ne (Ne.symm hj)]
        have hui' : listed.getD i false = false := by
          simp [hil] at hui ⊢
          exact hui
        have hlt : i < vs.length := by
          rw [hv, ← hds]
          simp
          exact hsz
        have hvi : (vs.set i u).getD i undef = u := by simp [hlt]
        have hvn : ∀ j, j ≠ i → (vs.set i u).getD j undef = vs.getD j undef := fun j hj => by simp [Ne.symm hj]
        refine ih _ _ w'' ?_ (by simp [hl]) ?_ ?_ (by simp [hv]) (hb.trans (hb2.mono hb.size)) ?_ ?_ ?_
        · have hcount : ∀ (L : List Nat), L.Nodup → ((L.filter fun j => !(listed.setIfInBounds i true).getD j false).length + if i ∈ L then 1 else 0) = (L.filter fun j => !listed.getD j false).length := by
            intro L
            induction L with
            | nil => intro _; simp
            | cons x L ihL =>
              intro hnd
              have hnd2 := List.nodup_cons.1 hnd
              have hh := ihL hnd2.2
              by_cases hx : x = i
              · subst hx
                have hnot : ¬ x ∈ L := hnd2.1
                rw [if_neg hnot] at hh
                rw [if_pos List.mem_cons_self, List.filter_cons, List.filter_cons, hset x, if_pos rfl, hui']
                simp only [Bool.not_true, Bool.false_eq_true, if_false, Bool.not_false, if_true, List.length_cons]
                omega
              · have hmem : (i ∈ x :: L) ↔ i ∈ L := by simp [Ne.symm hx]
                rw [List.filter_cons, List.filter_cons, hset x, if_neg hx]
                simp only [hmem]
                split
                · simp only [List.length_cons]; omega
                · exact hh
          have := hcount (List.range n) List.nodup_range
          rw [if_pos (List.mem_range.2 hin)] at this
          omega
        · intro j hj hj2
          rw [hset j, if_neg (by omega)]
          exact hpost j hj hj2
        · intro j oj hoj hg e he hbd
          rw [hset]
          by_cases hei : e.on = i
          · rw [if_pos hei]
          · rw [if_neg hei]
            by_cases hji : j = i
            · subst hji
              rw [ho] at hoj
              injection hoj with hoj
              subst hoj
              exact hdep e he hbd
            · rw [hset j, if_neg hji] at hg
              exact hcl j oj hoj hg e he hbd
        · intro j hj hg
          by_cases hji : j = i
          · subst hji
            rw [hvi]
            exact hRi
          · rw [hset j, if_neg hji] at hg
            rw [hvn j hji]
            exact hst.at j _ _ _ (hR j hj hg) hb2
        · intro j hj hg hjal
          by_cases hji : j = i
          · subst hji
            obtain ⟨e1, e2⟩ := hAi hjal
            exact ⟨_, by rw [hvi]; exact e1, e2⟩
          · rw [hset j, if_neg hji] at hg
            obtain ⟨b, e1, e2⟩ := hA j hj hg hjal
            exact ⟨b, by rw [hvn j hji]; exact e1, Nat.lt_of_lt_of_le e2 hb2.size⟩
        · intro x y hx hy hgx hgy hxal hyal hne
          by_cases hxi : x = i
          · subst hxi
            have hyi : y ≠ x := Ne.symm hne
            rw [hset y, if_neg hyi] at hgy
            rw [hvi, hvn y hyi]
            obtain ⟨e1, e2⟩ := hAi hxal
            obtain ⟨b, e3, e4⟩ := hA y hy hgy hyal
            rw [e1, e3]
            intro he
            injection he with he
            injection he with he
            injection he with he
            omega
          · rw [hset x, if_neg hxi] at hgx
            rw [hvn x hxi]
            by_cases hyi : y = i
            · subst hyi
              rw [hvi]
              obtain ⟨e1, e2⟩ := hAi hyal
              obtain ⟨b, e3, e4⟩ := hA x hx hgx hxal
              rw [e1, e3]
              intro he
              injection he with he
              injection he with he
              injection he with he
              omega
            · rw [hset y, if_neg hyi] at hgy
              rw [hvn y hyi]
              exact hD x y hx hy hgx hgy hxal hyal hne
      · simp only [hangs, ho] at hj
        obtain ⟨e, he, hb2⟩ := Array.any_eq_true'.1 hj
        simp only [Bool.and_eq_true, beq_iff_eq] at hb2
        have h1 := hdep e he hb2.1
        rw [hb2.2] at h1
        have hjn : j < n := by
          refine Classical.byContradiction fun hn => ?_
          have : j < listed.size := by
            refine Classical.byContradiction fun hs => ?_
            simp [hs] at h1
          rw [hpost j (by omega) (by omega)] at h1
          cases h1
        exact hR j hjn h1
    · -- the one that may be late is all that is left
      have hno : ∀ i, i < n → fl ≠ some i → listed.getD i false = true := fun i hi hf => by
        cases hg : listed.getD i false with
        | true => rfl
        | false => exact absurd ⟨i, hi, hg, hf⟩ hex
      have hne : ∃ i, i < n ∧ listed.getD i false = false := by
        cases hf : (List.range n).filter fun i => !listed.getD i false with
        | nil => rw [hf] at hk; simp at hk
        | cons i r =>
          have : i ∈ (List.range n).filter fun i => !listed.getD i false := by rw [hf]; exact List.mem_cons_self
          have := List.mem_filter.1 this
          exact ⟨i, List.mem_range.1 this.1, by simpa using this.2⟩
      obtain ⟨f, hf, huf⟩ := hne
      have hfl : fl = some f := Classical.byContradiction fun hn => by
        have := hno f hf hn
        rw [huf] at this
        cases this
      have hk1 : k = 0 := by
        have : (List.range n).filter (fun i => !listed.getD i false) = (List.range n).filter (fun i => i == f) := by
          apply List.filter_congr
          intro i hi
          by_cases hif : i = f
          · subst hif; rw [huf]; simp
          · rw [hno i (List.mem_range.1 hi) (by rw [hfl]; intro e; injection e with e; exact hif e.symm)]
            simp [hif]
        rw [this] at hk
        have h1 : ((List.range n).filter (fun i => i == f)).length ≤ 1 := by
          have := List.nodup_range (n := n)
          rw [← List.countP_eq_length_filter]
          exact (List.nodup_iff_count.1 this) f
        omega
      subst hk1
      have hlT : listed = T2 := listed_of (n := n) hl _ hT2 fun j hj => by
        by_cases hjn : j < n
        · by_cases hjf : j = f
          · subst hjf; rw [huf, hfl]; simp
          · rw [hno j hjn (by rw [hfl]; intro e; injection e with e; exact hjf e.symm), hfl, decide_eq_true hjn]
            simp [Ne.symm hjf]
        · rw [hpost j (by omega) (by omega), decide_eq_false hjn]; rfl
      subst hlT
      rw [show 0 + 1 + m = m + 1 by omega]
      have hl2 : ∀ i, i < n → i ≠ f → listed.getD i false = true := fun i hi hif => hno i hi (by rw [hfl]; intro e; injection e with e; exact hif e.symm)
      exact (h vs _ hv rfl).2.2 f hfl hf w' hb (fun i hi hif => hR i hi (hl2 i hi hif)) (fun i j hi hj hif hjf => hD i j hi hj (hl2 i hi hif) (hl2 j hj hjf))

/-- A drawn region by its parts. fl: an operation that the later ones need not wait for; al: those that make a block. -/
theorem wp_region_parts2 {id : Nat} {a : Act} {w : World} (n m : Nat) (fl : Option Nat) (al : List Nat) (Rs : List (Value → World → Prop)) (ds : List (Option Tmp)) (T T2 : Array Bool) (hm : P.follows .mixedOrders = true) (hds : ops.toList.map (·.dst) = ds) (hdist : distinctT ds = true) (hc : partsChk .any ops n fl = true)
    (hnm : n + m = ops.size) (hT : T.toList = (List.range ops.size).map (fun i => decide (i < n))) (hT2 : T2.toList = (List.range ops.size).map (fun i => decide (i < n) && !(fl == some i))) (hst : CarriesAll Rs)
    (h : ∀ vs b, vs.length = ds.length → b = putAll ds vs a → PartObs P .any ops Q Rs al w vs b n ∧
      (∀ w', Below w.heap.size w w' → (∀ i, i < n → claimed Rs i (vs.getD i undef) w') → (∀ i j, i < n → j < n → al.contains i = true → al.contains j = true → i ≠ j → vs.getD i undef ≠ vs.getD j undef) → wpAny P .any ops Q m T b w') ∧
      (∀ f, fl = some f → f < n → ∀ w', Below w.heap.size w w' → (∀ i, i < n → i ≠ f → claimed Rs i (vs.getD i undef) w') → (∀ i j, i < n → j < n → i ≠ f → j ≠ f → al.contains i = true → al.contains j = true → i ≠ j → vs.getD i undef ≠ vs.getD j undef) → wpAny P .any ops Q (m + 1) T2 b w')) :
    (Code.region id ops true).wp P Q a w := by
  refine wp_region_any hm ?_
  obtain ⟨vs, hl, he⟩ := putAll_self ds a
  have hz : ∀ i, (Array.replicate ops.size false).getD i false = false := fun i => by
    by_cases hi : i < ops.size
    · simp [hi]
    · simp [hi]
  have hk : ((List.range n).filter fun i => !(Array.replicate ops.size false).getD i false).length = n := by
    have : ((List.range n).filter fun i => !(Array.replicate ops.size false).getD i false) = List.range n := by
      rw [List.filter_eq_self]
      intro i _
      rw [hz i]
      rfl
    rw [this, List.length_range]
  have := wpAny_parts (P := P) (Q := Q) (W := w) (a := a) hds hdist hc hnm hT hT2 hst h n (Array.replicate ops.size false) vs { w with drawn := w.drawn + 1 } hk.symm (by simp) (fun i _ _ => hz i) (fun i o _ hg => by rw [hz i] at hg; cases hg) hl (Below.drew (Below.refl _ _)) (fun i _ hg => by rw [hz i] at hg; cases hg) (fun i _ hg => by rw [hz i] at hg; cases hg) (fun i _ _ _ hg => by rw [hz i] at hg; cases hg)
  rw [hnm, ← he] at this
  exact this

theorem wp_region_parts {id : Nat} {a : Act} {w : World} (n m : Nat) (Rs : List (Value → World → Prop)) (ds : List (Option Tmp)) (T : Array Bool) (hm : P.follows .mixedOrders = true) (hds : ops.toList.map (·.dst) = ds) (hdist : distinctT ds = true) (hc : partsChk .any ops n none = true)
    (hnm : n + m = ops.size) (hT : T.toList = (List.range ops.size).map (fun i => decide (i < n))) (hst : CarriesAll Rs)
    (h : ∀ vs b, vs.length = ds.length → b = putAll ds vs a → PartObs P .any ops Q Rs [] w vs b n ∧ ((∀ w', Below w.heap.size w w' → (∀ i, i < n → claimed Rs i (vs.getD i undef) w') → wpAny P .any ops Q m T b w'))) :
    (Code.region id ops true).wp P Q a w :=
  wp_region_parts2 n m none [] Rs ds T T hm hds hdist hc hnm hT (by rw [hT]; simp) hst fun vs b h1 h2 => ⟨(h vs b h1 h2).1, fun w' h3 h4 _ => (h vs b h1 h2).2 w' h3 h4, fun f hf => by cases hf⟩

theorem lst2 {α : Type} {l : List α} (h : l.length = 2) : ∃ x0 x1, l = [x0, x1] := by
  match l, h with
  | [x0, x1], _ => exact ⟨x0, x1, rfl⟩
theorem lst3 {α : Type} {l : List α} (h : l.length = 3) : ∃ x0 x1 x2, l = [x0, x1, x2] := by
  match l, h with
  | [x0, x1, x2], _ => exact ⟨x0, x1, x2, rfl⟩
theorem lst4 {α : Type} {l : List α} (h : l.length = 4) : ∃ x0 x1 x2 x3, l = [x0, x1, x2, x3] := by
  match l, h with
  | [x0, x1, x2, x3], _ => exact ⟨x0, x1, x2, x3, rfl⟩
theorem lst5 {α : Type} {l : List α} (h : l.length = 5) : ∃ x0 x1 x2 x3 x4, l = [x0, x1, x2, x3, x4] := by
  match l, h with
  | [x0, x1, x2, x3, x4], _ => exact ⟨x0, x1, x2, x3, x4, rfl⟩
theorem lst6 {α : Type} {l : List α} (h : l.length = 6) : ∃ x0 x1 x2 x3 x4 x5, l = [x0, x1, x2, x3, x4, x5] := by
  match l, h with
  | [x0, x1, x2, x3, x4, x5], _ => exact ⟨x0, x1, x2, x3, x4, x5, rfl⟩
theorem lst7 {α : Type} {l : List α} (h : l.length = 7) : ∃ x0 x1 x2 x3 x4 x5 x6, l = [x0, x1, x2, x3, x4, x5, x6] := by
  match l, h with
  | [x0, x1, x2, x3, x4, x5, x6], _ => exact ⟨x0, x1, x2, x3, x4, x5, x6, rfl⟩
theorem lst8 {α : Type} {l : List α} (h : l.length = 8) : ∃ x0 x1 x2 x3 x4 x5 x6 x7, l = [x0, x1, x2, x3, x4, x5, x6, x7] := by
  match l, h with
  | [x0, x1, x2, x3, x4, x5, x6, x7], _ => exact ⟨x0, x1, x2, x3, x4, x5, x6, x7, rfl⟩
theorem lst9 {α : Type} {l : List α} (h : l.length = 9) : ∃ x0 x1 x2 x3 x4 x5 x6 x7 x8, l = [x0, x1, x2, x3, x4, x5, x6, x7, x8] := by
  match l, h with
  | [x0, x1, x2, x3, x4, x5, x6, x7, x8], _ => exact ⟨x0, x1, x2, x3, x4, x5, x6, x7, x8, rfl⟩
theorem lst10 {α : Type} {l : List α} (h : l.length = 10) : ∃ x0 x1 x2 x3 x4 x5 x6 x7 x8 x9, l = [x0, x1, x2, x3, x4, x5, x6, x7, x8, x9] := by
  match l, h with
  | [x0, x1, x2, x3, x4, x5, x6, x7, x8, x9], _ => exact ⟨x0, x1, x2, x3, x4, x5, x6, x7, x8, x9, rfl⟩
theorem lst11 {α : Type} {l : List α} (h : l.length = 11) : ∃ x0 x1 x2 x3 x4 x5 x6 x7 x8 x9 x10, l = [x0, x1, x2, x3, x4, x5, x6, x7, x8, x9, x10] := by
  match l, h with
  | [x0, x1, x2, x3, x4, x5, x6, x7, x8, x9, x10], _ => exact ⟨x0, x1, x2, x3, x4, x5, x6, x7, x8, x9, x10, rfl⟩
theorem lst12 {α : Type} {l : List α} (h : l.length = 12) : ∃ x0 x1 x2 x3 x4 x5 x6 x7 x8 x9 x10 x11, l = [x0, x1, x2, x3, x4, x5, x6, x7, x8, x9, x10, x11] := by
  match l, h with
  | [x0, x1, x2, x3, x4, x5, x6, x7, x8, x9, x10, x11], _ => exact ⟨x0, x1, x2, x3, x4, x5, x6, x7, x8, x9, x10, x11, rfl⟩
theorem lst13 {α : Type} {l : List α} (h : l.length = 13) : ∃ x0 x1 x2 x3 x4 x5 x6 x7 x8 x9 x10 x11 x12, l = [x0, x1, x2, x3, x4, x5, x6, x7, x8, x9, x10, x11, x12] := by
  match l, h with
  | [x0, x1, x2, x3, x4, x5, x6, x7, x8, x9, x10, x11, x12], _ => exact ⟨x0, x1, x2, x3, x4, x5, x6, x7, x8, x9, x10, x11, x12, rfl⟩
theorem lst14 {α : Type} {l : List α} (h : l.length = 14) : ∃ x0 x1 x2 x3 x4 x5 x6 x7 x8 x9 x10 x11 x12 x13, l = [x0, x1, x2, x3, x4, x5, x6, x7, x8, x9, x10, x11, x12, x13] := by
  match l, h with
  | [x0, x1, x2, x3, x4, x5, x6, x7, x8, x9, x10, x11, x12, x13], _ => exact ⟨x0, x1, x2, x3, x4, x5, x6, x7, x8, x9, x10, x11, x12, x13, rfl⟩
theorem lst15 {α : Type} {l : List α} (h : l.length = 15) : ∃ x0 x1 x2 x3 x4 x5 x6 x7 x8 x9 x10 x11 x12 x13 x14, l = [x0, x1, x2, x3, x4, x5, x6, x7, x8, x9, x10, x11, x12, x13, x14] := by
  match l, h with
  | [x0, x1, x2, x3, x4, x5, x6, x7, x8, x9, x10, x11, x12, x13, x14], _ => exact ⟨x0, x1, x2, x3, x4, x5, x6, x7, x8, x9, x10, x11, x12, x13, x14, rfl⟩
theorem lst16 {α : Type} {l : List α} (h : l.length = 16) : ∃ x0 x1 x2 x3 x4 x5 x6 x7 x8 x9 x10 x11 x12 x13 x14 x15, l = [x0, x1, x2, x3, x4, x5, x6, x7, x8, x9, x10, x11, x12, x13, x14, x15] := by
  match l, h with
  | [x0, x1, x2, x3, x4, x5, x6, x7, x8, x9, x10, x11, x12, x13, x14, x15], _ => exact ⟨x0, x1, x2, x3, x4, x5, x6, x7, x8, x9, x10, x11, x12, x13, x14, x15, rfl⟩
theorem lst17 {α : Type} {l : List α} (h : l.length = 17) : ∃ x0 x1 x2 x3 x4 x5 x6 x7 x8 x9 x10 x11 x12 x13 x14 x15 x16, l = [x0, x1, x2, x3, x4, x5, x6, x7, x8, x9, x10, x11, x12, x13, x14, x15, x16] := by
  match l, h with
  | [x0, x1, x2, x3, x4, x5, x6, x7, x8, x9, x10, x11, x12, x13, x14, x15, x16], _ => exact ⟨x0, x1, x2, x3, x4, x5, x6, x7, x8, x9, x10, x11, x12, x13, x14, x15, x16, rfl⟩
theorem lst18 {α : Type} {l : List α} (h : l.length = 18) : ∃ x0 x1 x2 x3 x4 x5 x6 x7 x8 x9 x10 x11 x12 x13 x14 x15 x16 x17, l = [x0, x1, x2, x3, x4, x5, x6, x7, x8, x9, x10, x11, x12, x13, x14, x15, x16, x17] := by
  match l, h with
  | [x0, x1, x2, x3, x4, x5, x6, x7, x8, x9, x10, x11, x12, x13, x14, x15, x16, x17], _ => exact ⟨x0, x1, x2, x3, x4, x5, x6, x7, x8, x9, x10, x11, x12, x13, x14, x15, x16, x17, rfl⟩
theorem lst19 {α : Type} {l : List α} (h : l.length = 19) : ∃ x0 x1 x2 x3 x4 x5 x6 x7 x8 x9 x10 x11 x12 x13 x14 x15 x16 x17 x18, l = [x0, x1, x2, x3, x4, x5, x6, x7, x8, x9, x10, x11, x12, x13, x14, x15, x16, x17, x18] := by
  match l, h with
  | [x0, x1, x2, x3, x4, x5, x6, x7, x8, x9, x10, x11, x12, x13, x14, x15, x16, x17, x18], _ => exact ⟨x0, x1, x2, x3, x4, x5, x6, x7, x8, x9, x10, x11, x12, x13, x14, x15, x16, x17, x18, rfl⟩
theorem lst20 {α : Type} {l : List α} (h : l.length = 20) : ∃ x0 x1 x2 x3 x4 x5 x6 x7 x8 x9 x10 x11 x12 x13 x14 x15 x16 x17 x18 x19, l = [x0, x1, x2, x3, x4, x5, x6, x7, x8, x9, x10, x11, x12, x13, x14, x15, x16, x17, x18, x19] := by
  match l, h with
  | [x0, x1, x2, x3, x4, x5, x6, x7, x8, x9, x10, x11, x12, x13, x14, x15, x16, x17, x18, x19], _ => exact ⟨x0, x1, x2, x3, x4, x5, x6, x7, x8, x9, x10, x11, x12, x13, x14, x15, x16, x17, x18, x19, rfl⟩
theorem lst21 {α : Type} {l : List α} (h : l.length = 21) : ∃ x0 x1 x2 x3 x4 x5 x6 x7 x8 x9 x10 x11 x12 x13 x14 x15 x16 x17 x18 x19 x20, l = [x0, x1, x2, x3, x4, x5, x6, x7, x8, x9, x10, x11, x12, x13, x14, x15, x16, x17, x18, x19, x20] := by
  match l, h with
  | [x0, x1, x2, x3, x4, x5, x6, x7, x8, x9, x10, x11, x12, x13, x14, x15, x16, x17, x18, x19, x20], _ => exact ⟨x0, x1, x2, x3, x4, x5, x6, x7, x8, x9, x10, x11, x12, x13, x14, x15, x16, x17, x18, x19, x20, rfl⟩
theorem lst22 {α : Type} {l : List α} (h : l.length = 22) : ∃ x0 x1 x2 x3 x4 x5 x6 x7 x8 x9 x10 x11 x12 x13 x14 x15 x16 x17 x18 x19 x20 x21, l = [x0, x1, x2, x3, x4, x5, x6, x7, x8, x9, x10, x11, x12, x13, x14, x15, x16, x17, x18, x19, x20, x21] := by
  match l, h with
  | [x0, x1, x2, x3, x4, x5, x6, x7, x8, x9, x10, x11, x12, x13, x14, x15, x16, x17, x18, x19, x20, x21], _ => exact ⟨x0, x1, x2, x3, x4, x5, x6, x7, x8, x9, x10, x11, x12, x13, x14, x15, x16, x17, x18, x19, x20, x21, rfl⟩
theorem lst23 {α : Type} {l : List α} (h : l.length = 23) : ∃ x0 x1 x2 x3 x4 x5 x6 x7 x8 x9 x10 x11 x12 x13 x14 x15 x16 x17 x18 x19 x20 x21 x22, l = [x0, x1, x2, x3, x4, x5, x6, x7, x8, x9, x10, x11, x12, x13, x14, x15, x16, x17, x18, x19, x20, x21, x22] := by
  match l, h with
  | [x0, x1, x2, x3, x4, x5, x6, x7, x8, x9, x10, x11, x12, x13, x14, x15, x16, x17, x18, x19, x20, x21, x22], _ => exact ⟨x0, x1, x2, x3, x4, x5, x6, x7, x8, x9, x10, x11, x12, x13, x14, x15, x16, x17, x18, x19, x20, x21, x22, rfl⟩
theorem lst24 {α : Type} {l : List α} (h : l.length = 24) : ∃ x0 x1 x2 x3 x4 x5 x6 x7 x8 x9 x10 x11 x12 x13 x14 x15 x16 x17 x18 x19 x20 x21 x22 x23, l = [x0, x1, x2, x3, x4, x5, x6, x7, x8, x9, x10, x11, x12, x13, x14, x15, x16, x17, x18, x19, x20, x21, x22, x23] := by
  match l, h with
  | [x0, x1, x2, x3, x4, x5, x6, x7, x8, x9, x10, x11, x12, x13, x14, x15, x16, x17, x18, x19, x20, x21, x22, x23], _ => exact ⟨x0, x1, x2, x3, x4, x5, x6, x7, x8, x9, x10, x11, x12, x13, x14, x15, x16, x17, x18, x19, x20, x21, x22, x23, rfl⟩
theorem lst25 {α : Type} {l : List α} (h : l.length = 25) : ∃ x0 x1 x2 x3 x4 x5 x6 x7 x8 x9 x10 x11 x12 x13 x14 x15 x16 x17 x18 x19 x20 x21 x22 x23 x24, l = [x0, x1, x2, x3, x4, x5, x6, x7, x8, x9, x10, x11, x12, x13, x14, x15, x16, x17, x18, x19, x20, x21, x22, x23, x24] := by
  match l, h with
  | [x0, x1, x2, x3, x4, x5, x6, x7, x8, x9, x10, x11, x12, x13, x14, x15, x16, x17, x18, x19, x20, x21, x22, x23, x24], _ => exact ⟨x0, x1, x2, x3, x4, x5, x6, x7, x8, x9, x10, x11, x12, x13, x14, x15, x16, x17, x18, x19, x20, x21, x22, x23, x24, rfl⟩
theorem lst26 {α : Type} {l : List α} (h : l.length = 26) : ∃ x0 x1 x2 x3 x4 x5 x6 x7 x8 x9 x10 x11 x12 x13 x14 x15 x16 x17 x18 x19 x20 x21 x22 x23 x24 x25, l = [x0, x1, x2, x3, x4, x5, x6, x7, x8, x9, x10, x11, x12, x13, x14, x15, x16, x17, x18, x19, x20, x21, x22, x23, x24, x25] := by
  match l, h with
  | [x0, x1, x2, x3, x4, x5, x6, x7, x8, x9, x10, x11, x12, x13, x14, x15, x16, x17, x18, x19, x20, x21, x22, x23, x24, x25], _ => exact ⟨x0, x1, x2, x3, x4, x5, x6, x7, x8, x9, x10, x11, x12, x13, x14, x15, x16, x17, x18, x19, x20, x21, x22, x23, x24, x25, rfl⟩
theorem carries_eq (c : Value) : Carries (fun u _ => u = c) := fun _ _ _ h _ => h
end
end Go
