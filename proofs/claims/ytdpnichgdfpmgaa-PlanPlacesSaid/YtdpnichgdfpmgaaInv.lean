/- A drawn region, operation by operation, each shown ONCE whatever the order: stores to older blocks too. St k: what holds behind k of the stores sts (which hang each on the one before). -/
import Derived.Test.YtdpnichgdfpmgaaParts
set_option linter.unusedVariables false
set_option linter.unusedSimpArgs false
namespace Go
open Go.RowKit
/-- How many of the stores lie behind operation i; how many may. -/
def lowS (ops : Array Oper) (sts : List Nat) (i : Nat) : Nat := (sts.filter fun s => reaches .any ops ops.size i s).length
def highS (ops : Array Oper) (sts : List Nat) (i : Nat) : Nat := (sts.filter fun s => !(s == i) && !(reaches .any ops ops.size s i)).length
theorem filter_len_mono {l : List Nat} {p q : Nat → Bool} (h : ∀ s ∈ l, p s = true → q s = true) : (l.filter p).length ≤ (l.filter q).length := by
  induction l with
  | nil => simp
  | cons x l ih =>
    have ih2 := ih (fun s hs => h s (List.mem_cons_of_mem _ hs))
    have hx := h x List.mem_cons_self
    rw [List.filter_cons, List.filter_cons]
    by_cases hp : p x = true
    · rw [if_pos hp, if_pos (hx hp)]; simp; exact ih2
    · rw [if_neg hp]
      split
      · simp; omega
      · exact ih2
theorem filter_set_count {listed : Array Bool} {i : Nat} (hil : i < listed.size) (hu : listed.getD i false = false) : ∀ (L : List Nat), L.Nodup → (L.filter fun s => (listed.setIfInBounds i true).getD s false).length = (L.filter fun s => listed.getD s false).length + if L.contains i then 1 else 0 := by
  have hset : ∀ j, (listed.setIfInBounds i true).getD j false = if j = i then true else listed.getD j false := fun j => by
    by_cases hj : j = i
    · subst hj; simp [hil]
    · rw [if_neg hj]
      simp [Array.getElem?_setIfInBounds_ne (Ne.symm hj)]
  intro L
  induction L with
  | nil => intro _; simp
  | cons x L ih =>
    intro hnd
    have hnd2 := List.nodup_cons.1 hnd
    have hh := ih hnd2.2
    rw [List.filter_cons, List.filter_cons, hset x]
    by_cases hx : x = i
    · subst hx
      have hnot : L.contains x = false := by simpa using hnd2.1
      rw [hnot] at hh
      rw [if_pos rfl, if_pos rfl, hu]
      simp only [Bool.false_eq_true, if_false, List.length_cons] at hh ⊢
      rw [hh]
      simp
    · rw [if_neg hx]
      have hc : (x :: L).contains i = L.contains i := by simp [List.contains_cons, Ne.symm hx]
      rw [hc]
      split
      · simp only [List.length_cons]; omega
      · exact hh
end Go
namespace Go
open Go.RowKit
section
variable {P : Program} {ops : Array Oper} {Q : Exit → Act → World → Prop}

def InvOb (P : Program) (ops : Array Oper) (Q : Exit → Act → World → Prop) (Rel : World → World → Prop) (St : Nat → World → Prop) (sts : List Nat) (Rs : List (Value → World → Prop)) (W : World) (vs : List Value) (b : Act) (i : Nat) : Prop :=
  ∀ k w', lowS ops sts i ≤ k → k ≤ highS ops sts i → Rel W w' → St k w' → (∀ j, hangs .any ops i j = true → claimed Rs j (vs.getD j undef) w') →
    wpOp P ops Q i (fun a'' w'' => ∃ u, a'' = b.put ((ops[i]?).bind (·.dst)) u ∧ Rel w' w'' ∧ St (k + if sts.contains i then 1 else 0) w'' ∧ claimed Rs i u w'') b w'
theorem InvOb.intro {Rel : World → World → Prop} {St : Nat → World → Prop} {sts : List Nat} {Rs : List (Value → World → Prop)} {W : World} {vs : List Value} {b : Act} {i : Nat} {o : Oper} {d : Option Tmp} {r : Value → World → Prop} (lo hi : Nat) (ho : ops[i]? = some o) (hd : o.dst = d) (hr : claimed Rs i = r) (hl : lowS ops sts i = lo) (hh : highS ops sts i = hi) (hs : sts.contains i = false)
    (h : ∀ k w', lo ≤ k → k ≤ hi → Rel W w' → St k w' → (∀ j, hangs .any ops i j = true → claimed Rs j (vs.getD j undef) w') → ∀ K : Act → World → Prop,
      Shut (∀ u w'', Rel w' w'' → St k w'' → r u w'' → K (b.put d u) w'') → if Region.wanted o (yielded ops b.tmps) = true then Oper.wp P o b w' K Q else K (b.put d undef) w') :
    InvOb P ops Q Rel St sts Rs W vs b i := fun k w' h1 h2 hb hS hdd => by
  subst hd
  rw [hl] at h1
  rw [hh] at h2
  refine wpOp_step ho fun K hK => h k w' h1 h2 hb hS hdd K fun u w'' h3 h4 h5 => hK _ _ ⟨u, ?_, h3, ?_, ?_⟩
  · rw [ho]; rfl
  · rw [hs]; exact h4
  · rw [hr]; exact h5
theorem InvOb.put {Rel : World → World → Prop} {St : Nat → World → Prop} {sts : List Nat} {Rs : List (Value → World → Prop)} {W : World} {vs : List Value} {b : Act} {i : Nat} {o : Oper} {d : Option Tmp} {r : Value → World → Prop} (lo : Nat) (ho : ops[i]? = some o) (hd : o.dst = d) (hr : claimed Rs i = r) (hl : lowS ops sts i = lo) (hh : highS ops sts i = lo) (hs : sts.contains i = true)
    (h : ∀ w', Rel W w' → St lo w' → (∀ j, hangs .any ops i j = true → claimed Rs j (vs.getD j undef) w') → ∀ K : Act → World → Prop,
      Shut (∀ u w'', Rel w' w'' → St (lo + 1) w'' → r u w'' → K (b.put d u) w'') → if Region.wanted o (yielded ops b.tmps) = true then Oper.wp P o b w' K Q else K (b.put d undef) w') :
    InvOb P ops Q Rel St sts Rs W vs b i := fun k w' h1 h2 hb hS hdd => by
  subst hd
  rw [hl] at h1
  rw [hh] at h2
  obtain rfl : k = lo := by omega
  refine wpOp_step ho fun K hK => h w' hb hS hdd K fun u w'' h3 h4 h5 => hK _ _ ⟨u, ?_, h3, ?_, ?_⟩
  · rw [ho]; rfl
  · rw [hs]; exact h4
  · rw [hr]; exact h5
inductive InvObs (P : Program) (ops : Array Oper) (Q : Exit → Act → World → Prop) (Rel : World → World → Prop) (St : Nat → World → Prop) (sts : List Nat) (Rs : List (Value → World → Prop)) (W : World) (vs : List Value) (b : Act) : Nat → Prop
  | zero : InvObs P ops Q Rel St sts Rs W vs b 0
  | snoc {n : Nat} : InvObs P ops Q Rel St sts Rs W vs b n → InvOb P ops Q Rel St sts Rs W vs b n → InvObs P ops Q Rel St sts Rs W vs b (n + 1)
theorem InvObs.at {Rel : World → World → Prop} {St : Nat → World → Prop} {sts : List Nat} {Rs : List (Value → World → Prop)} {W : World} {vs : List Value} {b : Act} : ∀ {n : Nat}, InvObs P ops Q Rel St sts Rs W vs b n → ∀ i, i < n → InvOb P ops Q Rel St sts Rs W vs b i
  | _, .zero, i, h => absurd h (Nat.not_lt_zero _)
  | n + 1, .snoc hs h, i, hi => by
    by_cases he : i = n
    · subst he; exact h
    · exact hs.at i (by omega)

theorem wpAny_inv {Rel : World → World → Prop} {St : Nat → World → Prop} {sts : List Nat} {ds : List (Option Tmp)} {Rs : List (Value → World → Prop)} {W : World} {a : Act} {N : Nat} (hN : ops.size = N) (hds : ops.toList.map (·.dst) = ds) (hdist : distinctT ds = true) (hc : partsChk .any ops N none = true) (hnd : sts.Nodup) (hsub : ∀ s ∈ sts, s < N)
    (hRt : ∀ {A B C : World}, Rel A B → Rel B C → Rel A C) (hst : ∀ i u w w', claimed Rs i u w → Rel w w' → claimed Rs i u w')
    (h : ∀ vs b, vs.length = ds.length → b = putAll ds vs a → InvObs P ops Q Rel St sts Rs W vs b N ∧
      (∀ w', Rel W w' → St sts.length w' → (∀ i, i < N → claimed Rs i (vs.getD i undef) w') → Q .normal b w')) :
    ∀ (k : Nat) (listed : Array Bool) (vs : List Value) (w' : World), k = ((List.range N).filter fun i => !listed.getD i false).length → listed.size = ops.size → Closed .any ops listed →
      vs.length = ds.length → Rel W w' → St (sts.filter fun s => listed.getD s false).length w' → (∀ i, i < N → listed.getD i false = true → claimed Rs i (vs.getD i undef) w') → wpAny P .any ops Q k listed (putAll ds vs a) w' := by
  subst hN
  intro k
  induction k with
  | zero =>
    intro listed vs w' hk hl hcl hv hb hS hR
    have hall : ∀ i, i < ops.size → listed.getD i false = true := fun i hi => by
      cases hg : listed.getD i false with
      | true => rfl
      | false =>
        have : i ∈ (List.range ops.size).filter fun i => !listed.getD i false := List.mem_filter.2 ⟨List.mem_range.2 hi, by rw [hg]; rfl⟩
        rw [List.length_eq_zero_iff.1 hk.symm] at this
        cases this
    have hrd : Region.ready .any ops listed = [] := by
      cases hr : Region.ready .any ops listed with
      | nil => rfl
      | cons i r =>
        have hi : i ∈ Region.ready .any ops listed := by rw [hr]; exact List.mem_cons_self
        obtain ⟨hui, o, ho, _⟩ := mem_ready.1 hi
        have hsz : i < ops.size := (Array.getElem?_eq_some_iff.1 ho).1
        have h1 := hall i hsz
        have h2 : i < listed.size := by omega
        simp [h2] at hui h1
        rw [h1] at hui
        cases hui
    have hcount : (sts.filter fun s => listed.getD s false).length = sts.length := by
      rw [List.filter_eq_self.2 (fun s hs => hall s (hsub s hs))]
    rw [hcount] at hS
    exact wpAny_done hrd ((h vs _ hv rfl).2 w' hb hS (fun i hi => hR i hi (hall i hi))) _
  | succ k ih =>
    intro listed vs w' hk hl hcl hv hb hS hR
    have hex : ∃ i, i < ops.size ∧ listed.getD i false = false := by
      cases hf : (List.range ops.size).filter fun i => !listed.getD i false with
      | nil => rw [hf] at hk; simp at hk
      | cons i r =>
        have : i ∈ (List.range ops.size).filter fun i => !listed.getD i false := by rw [hf]; exact List.mem_cons_self
        have := List.mem_filter.1 this
        exact ⟨i, List.mem_range.1 this.1, by simpa using this.2⟩
    obtain ⟨i0, hi0, hu0⟩ := hex
    have hrd := parts_ready hc hl i0 hi0 hu0
    have hob := (h vs _ hv rfl).1
    refine ⟨fun h0 => absurd h0 hrd, fun i hi => ?_⟩
    obtain ⟨hui, o, ho, hdep⟩ := mem_ready.1 hi
    have hsz : i < ops.size := (Array.getElem?_eq_some_iff.1 ho).1
    have hil : i < listed.size := by omega
    have hui' : listed.getD i false = false := by
      simp [hil] at hui ⊢
      exact hui
    have hlo : lowS ops sts i ≤ (sts.filter fun s => listed.getD s false).length :=
      filter_len_mono fun s _ hr => reaches_listed hcl _ i s o ho hdep hr
    have hhi : (sts.filter fun s => listed.getD s false).length ≤ highS ops sts i :=
      filter_len_mono fun s hs hls => by
        have h1 : s ≠ i := fun e => by rw [e, hui'] at hls; cases hls
        have hso := hsub s hs
        have h2 : reaches .any ops ops.size s i = false := by
          cases hr : reaches .any ops ops.size s i with
          | false => rfl
          | true =>
            have hos : ops[s]? = some ops[s] := by simp [hso]
            have := reaches_listed hcl _ s i _ hos (hcl s _ hos hls) hr
            rw [hui'] at this
            cases this
        simp [h1, h2]
    refine wpOp_mono ?_ (hob.at i hsz _ w' hlo hhi hb hS fun j hj => ?_)
    · rintro a'' w'' ⟨u, rfl, hb2, hS2, hRi⟩
      have hds2 : ds[i]? = some o.dst := by
        rw [← hds]
        simp [hsz]
        have := (Array.getElem?_eq_some_iff.1 ho).2
        rw [this]
      have hd : ((ops[i]?).bind (·.dst)) = o.dst := by rw [ho]; rfl
      rw [hd, putAll_set ds vs a i o.dst u hdist hv hds2]
      have hset : ∀ j, (listed.setIfInBounds i true).getD j false = if j = i then true else listed.getD j false := fun j => by
        by_cases hj : j = i
        · subst hj; simp [hil]
        · rw [if_neg hj]
          simp [Array.getElem?_setIfInBounds_ne (Ne.symm hj)]
      have hlt : i < vs.length := by
        rw [hv, ← hds]
        simp
        exact hsz
      have hvi : (vs.set i u).getD i undef = u := by simp [hlt]
      have hvn : ∀ j, j ≠ i → (vs.set i u).getD j undef = vs.getD j undef := fun j hj => by simp [Ne.symm hj]
      refine ih _ _ w'' ?_ (by simp [hl]) ?_ (by simp [hv]) (hRt hb hb2) ?_ ?_
      · have hcount : ∀ (L : List Nat), L.Nodup → ((L.filter fun j => !(listed.setIfInBounds i true).getD j false).length + if i ∈ L then 1 else 0) = (L.filter fun j => !listed.getD j false).length := by
          intro L
          induction L with
          | nil => intro _; simp
          | cons x L ihL =>
            intro hnd
            have hnd2 := List.nodup_cons.1 hnd
            have hh := ihL hnd2.2
            by_cases hx : x = i
            · subst hx
              have hnot : ¬ x ∈ L := hnd2.1
              rw [if_neg hnot] at hh
              rw [if_pos List.mem_cons_self, List.filter_cons, List.filter_cons, hset x, if_pos rfl, hui']
              simp only [Bool.not_true, Bool.false_eq_true, if_false, Bool.not_false, if_true, List.length_cons]
              omega
            · have hmem : (i ∈ x :: L) ↔ i ∈ L := by simp [Ne.symm hx]
              rw [List.filter_cons, List.filter_cons, hset x, if_neg hx]
              simp only [hmem]
              split
              · simp only [List.length_cons]; omega
              · exact hh
        have := hcount (List.range ops.size) List.nodup_range
        rw [if_pos (List.mem_range.2 hsz)] at this
        omega
      · intro j oj hoj hg e he hbd
        rw [hset]
        by_cases hei : e.on = i
        · rw [if_pos hei]
        · rw [if_neg hei]
          by_cases hji : j = i
          · subst hji
            rw [ho] at hoj
            injection hoj with hoj
            subst hoj
            exact hdep e he hbd
          · rw [hset j, if_neg hji] at hg
            exact hcl j oj hoj hg e he hbd
      · rw [filter_set_count hil hui' sts hnd]
        exact hS2
      · intro j hj hg
        by_cases hji : j = i
        · subst hji
          rw [hvi]
          exact hRi
        · rw [hset j, if_neg hji] at hg
          rw [hvn j hji]
          exact hst j _ _ _ (hR j hj hg) hb2
    · simp only [hangs, ho] at hj
      obtain ⟨e, he, hb2⟩ := Array.any_eq_true'.1 hj
      simp only [Bool.and_eq_true, beq_iff_eq] at hb2
      have h1 := hdep e he hb2.1
      rw [hb2.2] at h1
      have hjn : j < ops.size := by
        refine Classical.byContradiction fun hn => ?_
        have : j < listed.size := by
          refine Classical.byContradiction fun hs => ?_
          simp [hs] at h1
        omega
      exact hR j hjn h1

/-- A drawn region by an invariant. -/
theorem wp_region_inv {id : Nat} {a : Act} {w : World} (N : Nat) (Rel : World → World → Prop) (St : Nat → World → Prop) (sts : List Nat) (Rs : List (Value → World → Prop)) (ds : List (Option Tmp)) (hm : P.follows .mixedOrders = true) (hN : ops.size = N) (hds : ops.toList.map (·.dst) = ds) (hdist : distinctT ds = true) (hc : partsChk .any ops N none = true) (hnd : sts.Nodup) (hsub : ∀ s ∈ sts, s < N)
    (hRt : ∀ {A B C : World}, Rel A B → Rel B C → Rel A C) (hR0 : Rel w { w with drawn := w.drawn + 1 }) (hS0 : St 0 { w with drawn := w.drawn + 1 }) (hst : ∀ i u w w', claimed Rs i u w → Rel w w' → claimed Rs i u w')
    (h : ∀ vs b, vs.length = ds.length → b = putAll ds vs a → InvObs P ops Q Rel St sts Rs w vs b N ∧
      (∀ w', Rel w w' → St sts.length w' → (∀ i, i < N → claimed Rs i (vs.getD i undef) w') → Q .normal b w')) :
    (Code.region id ops true).wp P Q a w := by
  refine wp_region_any hm ?_
  obtain ⟨vs, hl, he⟩ := putAll_self ds a
  have hz : ∀ i, (Array.replicate ops.size false).getD i false = false := fun i => by
    by_cases hi : i < ops.size
    · simp [hi]
    · simp [hi]
  have hk : ((List.range N).filter fun i => !(Array.replicate ops.size false).getD i false).length = ops.size := by
    have : ((List.range N).filter fun i => !(Array.replicate ops.size false).getD i false) = List.range N := by
      rw [List.filter_eq_self]
      intro i _
      rw [hz i]
      rfl
    rw [this, List.length_range, hN]
  have hcnt : (sts.filter fun s => (Array.replicate ops.size false).getD s false).length = 0 := by
    rw [List.filter_eq_nil_iff.2 (fun s _ => by rw [hz s]; simp)]
    rfl
  have := wpAny_inv (P := P) (Rel := Rel) (St := St) (Q := Q) (W := w) (a := a) hN hds hdist hc hnd hsub (fun h k => hRt h k) hst h ops.size (Array.replicate ops.size false) vs { w with drawn := w.drawn + 1 } hk.symm (by simp) (fun i o _ hg => by rw [hz i] at hg; cases hg) hl hR0 (by rw [hcnt]; exact hS0) (fun i _ hg => by rw [hz i] at hg; cases hg)
  rw [← he] at this
  exact this
/-- One by one: the claims are borne along. -/
inductive BorneAll (Rel : World → World → Prop) : List (Value → World → Prop) → Prop
  | nil : BorneAll Rel []
  | cons {r : Value → World → Prop} {rs : List (Value → World → Prop)} : (∀ u w w', r u w → Rel w w' → r u w') → BorneAll Rel rs → BorneAll Rel (r :: rs)
theorem BorneAll.at {Rel : World → World → Prop} : ∀ {Rs : List (Value → World → Prop)}, BorneAll Rel Rs → ∀ i u w w', claimed Rs i u w → Rel w w' → claimed Rs i u w'
  | _, .nil, i => fun _ _ _ _ _ => by simp [claimed]
  | _, .cons h _, 0 => h
  | _, .cons (r := r) (rs := rs) _ hs, i + 1 => by
    have := hs.at i
    simpa [claimed] using this
theorem borne_eq {Rel : World → World → Prop} (v : Value) : ∀ u w w', (fun (u : Value) (_ : World) => u = v) u w → Rel w w' → (fun (u : Value) (_ : World) => u = v) u w' := fun _ _ _ h _ => h
end
end Go
