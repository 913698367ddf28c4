/- A region that draws its order, whose operations but the last only read (calls among them may draw), and whose last one waits for all of them: one walk of the text's order serves every order. -/
import Derived.StillTail
import Derived.Deep.Quiet
import Derived.Deep.QuietTactic
namespace Go.Proofs.Ytdecbimklomdjaa
open Go

/-- The region's form: n operations ahead, each waiting for smaller ones alone; each is waited for by a later one, the last one among these. -/
def tailB (l : List Oper) (n : Nat) : Bool :=
  decide (l.length = n + 1) && Region.lexB .any (l.take n).toArray &&
  ((List.range n).all fun j => match l[j]? with
    | some o => (o.after.all fun e => !Region.binds .any e || decide (e.on < j)) && (match o.guard with | none => true | some (g, _) => decide (g < n))
    | none => false) &&
  (match l[n]? with
    | some o => (o.after.all fun e => !Region.binds .any e || decide (e.on < n))
    | none => false) &&
  ((List.range n).all fun i => (List.range (n + 1)).any fun j => decide (i < j) && (match l[j]? with
    | some o => o.after.any fun e => Region.binds .any e && decide (e.on = i)
    | none => false))

section
variable {P : Program} {l : List Oper} {n : Nat}

theorem push_getD_lt {lh : Array Bool} {j : Nat} {d : Bool} (h : j < lh.size) (b : Bool) : (lh.push b).getD j d = lh.getD j d := by
  simp [h, Nat.lt_succ_of_lt h, Array.getElem_push_lt]

structure TailOk (l : List Oper) (n : Nat) : Prop where
  len : l.length = n + 1
  noSel : Region.noSelect (l.take n).toArray = true
  lex : Region.lexFrom .any (l.take n).toArray (l.take n).toArray.size 0 (Array.replicate (l.take n).toArray.size false) = true
  before : ∀ j o, j < n → l[j]? = some o → ∀ e ∈ o.after, Region.binds .any e = true → e.on < j
  guards : ∀ j o, j < n → l[j]? = some o → ∀ g b, o.guard = some (g, b) → g < n
  lastIn : ∀ o, l[n]? = some o → ∀ e ∈ o.after, Region.binds .any e = true → e.on < n
  sink : ∀ i, i < n → ∃ j o, i < j ∧ j ≤ n ∧ l[j]? = some o ∧ ∃ e ∈ o.after, Region.binds .any e = true ∧ e.on = i

theorem tailB_ok (h : tailB l n = true) : TailOk l n := by
  unfold tailB at h
  simp only [Bool.and_eq_true, decide_eq_true_eq] at h
  obtain ⟨⟨⟨⟨h1, h2⟩, h3⟩, h4⟩, h5⟩ := h
  simp only [Region.lexB, Bool.and_eq_true] at h2
  refine ⟨h1, h2.1, h2.2, ?_, ?_, ?_, ?_⟩
  · intro j o hj ho e he hb
    have := List.all_eq_true.1 h3 j (List.mem_range.2 hj)
    rw [ho] at this
    simp only [Bool.and_eq_true] at this
    have := Array.all_eq_true_iff_forall_mem.1 this.1 e he
    simpa [hb] using this
  · intro j o hj ho g b hg
    have := List.all_eq_true.1 h3 j (List.mem_range.2 hj)
    rw [ho] at this
    simp only [Bool.and_eq_true, hg] at this
    simpa using this.2
  · intro o ho e he hb
    rw [ho] at h4
    have := Array.all_eq_true_iff_forall_mem.1 h4 e he
    simpa [hb] using this
  · intro i hi
    have := List.all_eq_true.1 h5 i (List.mem_range.2 hi)
    obtain ⟨j, hj, hb⟩ := List.any_eq_true.1 this
    simp only [Bool.and_eq_true, decide_eq_true_eq] at hb
    have hjn := List.mem_range.1 hj
    cases ho : l[j]? with
    | none => rw [ho] at hb; simp at hb
    | some o =>
      rw [ho] at hb
      obtain ⟨e, he, hb2⟩ := Array.any_eq_true'.1 hb.2
      simp only [Bool.and_eq_true, decide_eq_true_eq] at hb2
      exact ⟨j, o, hb.1, by omega, ho, e, he, hb2.1, hb2.2⟩

theorem take_get (j : Nat) (h : j < n) : (l.take n).toArray[j]? = l.toArray[j]? := by
  simp [h]

theorem ready_head (ok : TailOk l n) {lh : Array Bool} (hs : lh.size = n) {j : Nat} (hj : j < n) :
    j ∈ Region.ready .any l.toArray (lh.push false) ↔ j ∈ Region.ready .any (l.take n).toArray lh := by
  rw [mem_ready, mem_ready, take_get j hj, push_getD_lt (by omega)]
  constructor
  · rintro ⟨h1, o, ho, h2⟩
    refine ⟨h1, o, ho, fun e he hb => ?_⟩
    have hlt := ok.before j o hj (by simpa using ho) e he hb
    rw [← push_getD_lt (d := false) (by omega) false]
    exact h2 e he hb
  · rintro ⟨h1, o, ho, h2⟩
    refine ⟨h1, o, ho, fun e he hb => ?_⟩
    have hlt := ok.before j o hj (by simpa using ho) e he hb
    rw [push_getD_lt (by omega)]
    exact h2 e he hb

/-- What has come up has waited for what it had to. -/
def Closed (l : List Oper) (n : Nat) (lh : Array Bool) : Prop :=
  ∀ j o, j < n → l[j]? = some o → lh.getD j false = true → ∀ e ∈ o.after, Region.binds .any e = true → lh.getD e.on false = true

theorem ready_last (ok : TailOk l n) {lh : Array Bool} (hs : lh.size = n) (hcl : Closed l n lh) :
    n ∈ Region.ready .any l.toArray (lh.push false) ↔ ∀ i, i < n → lh.getD i false = true := by
  obtain ⟨o, ho⟩ : ∃ o, l[n]? = some o := ⟨_, List.getElem?_eq_getElem (by rw [ok.len]; omega)⟩
  rw [mem_ready]
  constructor
  · rintro ⟨_, o', ho', h2⟩
    have : o' = o := by rw [List.getElem?_toArray, ho] at ho'; exact (Option.some.inj ho').symm
    subst this
    have key : ∀ d i, n - i = d → i < n → lh.getD i false = true := by
      intro d
      induction d using Nat.strongRecOn with
      | _ d ih =>
        intro i hd hi
        obtain ⟨j, oj, hij, hjn, hoj, e, he, hb, hon⟩ := ok.sink i hi
        by_cases hj : j = n
        · subst hj
          have : oj = o' := Option.some.inj (hoj.symm.trans ho)
          subst this
          have := h2 e he hb
          rwa [hon, push_getD_lt (by omega)] at this
        · have h3 := ih (n - j) (by omega) j rfl (by omega)
          have := hcl j oj (by omega) hoj h3 e he hb
          rwa [hon] at this
    exact fun i hi => key _ i rfl hi
  · intro h
    refine ⟨by simp [← hs], o, by simpa using ho, fun e he hb => ?_⟩
    have := ok.lastIn o ho e he hb
    rw [push_getD_lt (by omega)]
    exact h _ this

/-- Where nothing of the head may come up, all of it has. -/
theorem all_listed (ok : TailOk l n) {lh : Array Bool} (hs : lh.size = n) (h : Region.ready .any (l.take n).toArray lh = []) : ∀ i, i < n → lh.getD i false = true := by
  intro i
  induction i using Nat.strongRecOn with
  | _ i ih =>
    intro hi
    cases hc : lh.getD i false with
    | true => rfl
    | false =>
      have hlt : i < l.length := by rw [ok.len]; omega
      have : i ∈ Region.ready .any (l.take n).toArray lh := by
        rw [mem_ready]
        refine ⟨?_, l[i], by simp [hi, hlt], fun e he hb => ?_⟩
        · have hi' : i < lh.size := by omega
          simp [hi'] at hc ⊢
          exact hc
        · have hb' := ok.before i l[i] hi (by simp) e he hb
          exact ih _ hb' (by omega)
      rw [h] at this
      cases this

theorem wanted_head (ok : TailOk l n) {j : Nat} {o : Oper} (hj : j < n) (ho : l[j]? = some o) (t : Array Value) :
    Region.wanted o (yielded (l.take n).toArray t) = Region.wanted o (yielded l.toArray t) := by
  unfold Region.wanted
  cases hg : o.guard with
  | none => rfl
  | some p =>
    obtain ⟨g, b⟩ := p
    have := ok.guards j o hj ho g b hg
    simp only [yielded, take_get g this]

theorem qOp_head (ok : TailOk l n) {C : World → Prop} {j : Nat} (hj : j < n) {K : Act → Prop} {a : Act} (h : qOp P (l.take n).toArray C j K a) : qOp P l.toArray C j K a := by
  have hlt : j < l.length := by rw [ok.len]; omega
  have ho : l[j]? = some l[j] := List.getElem?_eq_getElem hlt
  unfold qOp at *
  rw [take_get j hj] at h
  simp only [List.getElem?_toArray, ho] at h ⊢
  rw [wanted_head ok hj ho] at h
  exact h

theorem wpAny_tail (ok : TailOk l n) {C : World → Prop} {Q : Exit → Act → World → Prop} :
    ∀ (fuel : Nat) (lh : Array Bool) (a : Act), lh.size = n → Closed l n lh →
      wpAnyQ P .any (l.take n).toArray C (fun a' => ∀ w', C w' → wpList P l.toArray Q (l.drop n) a' w') fuel lh a →
      ∀ w, C w → wpAny P .any l.toArray Q (fuel + 1) (lh.push false) a w := by
  have hlt : n < l.length := by rw [ok.len]; omega
  have hd : l.drop n = [l[n]] := by
    rw [List.drop_eq_getElem_cons hlt, List.drop_of_length_le (by rw [ok.len]; omega)]
  have last : ∀ (fuel : Nat) (lh : Array Bool) (a : Act) (w : World), lh.size = n → Closed l n lh → Region.ready .any (l.take n).toArray lh = [] → wpList P l.toArray Q (l.drop n) a w →
      wpAny P .any l.toArray Q (fuel + 1) (lh.push false) a w := by
    intro fuel lh a w hs hcl hr h
    have hall := all_listed ok hs hr
    have hn := (ready_last ok hs hcl).2 hall
    refine ⟨fun h0 => (by rw [h0] at hn; cases hn), fun i hi => ?_⟩
    have hin : i = n := by
      rcases Nat.lt_trichotomy i n with h1 | h1 | h1
      · have := (ready_head ok hs h1).1 hi
        rw [hr] at this
        cases this
      · exact h1
      · have hsz : (lh.push false).size = n + 1 := by simp [hs]
        have := (mem_ready.1 hi).1
        simp [Array.getElem?_eq_none (show (lh.push false).size ≤ i by omega)] at this
    subst hin
    have hdone : Region.ready .any l.toArray ((lh.push false).setIfInBounds i true) = [] := by
      rw [List.eq_nil_iff_forall_not_mem]
      intro j hj
      have h1 := (mem_ready.1 hj).1
      obtain ⟨o, ho, _⟩ := (mem_ready.1 hj).2
      have hj2 : j < l.length := by simpa using (Array.getElem?_eq_some_iff.1 ho).1
      rw [ok.len] at hj2
      by_cases hji : j = i
      · subst hji
        simp [← hs] at h1
      · have hj3 : j < lh.size := by omega
        have := hall j (by omega)
        simp [Ne.symm hji, hj3, Array.getElem_push_lt, show j < lh.size + 1 by omega] at h1 this
        rw [this] at h1
        cases h1
    rw [hd] at h
    unfold wpOp
    simp only [List.getElem?_toArray, List.getElem?_eq_getElem hlt]
    simp only [wpList] at h
    split
    · rename_i hw
      rw [if_pos hw] at h
      rcases h with h | h
      · exact .inl (Oper.wp_mono (fun a w hq => wpAny_done hdone hq fuel) h)
      · exact .inr h
    · rename_i hw
      rw [if_neg hw] at h
      exact wpAny_done hdone h fuel
  intro fuel
  induction fuel with
  | zero => intro lh a hs hcl h w hw; exact last 0 lh a w hs hcl h.1 (h.2 w hw)
  | succ fuel ih =>
    intro lh a hs hcl h w hw
    by_cases hr : Region.ready .any (l.take n).toArray lh = []
    · exact last _ lh a w hs hcl hr (h.1 hr w hw)
    · have hnot : n ∉ Region.ready .any l.toArray (lh.push false) := fun hn => by
        have hall := (ready_last ok hs hcl).1 hn
        obtain ⟨j, hj⟩ := List.exists_mem_of_ne_nil _ hr
        have h1 := (mem_ready.1 hj).1
        obtain ⟨o, ho, _⟩ := (mem_ready.1 hj).2
        have hj2 : j < n := by
          have := (Array.getElem?_eq_some_iff.1 ho).1
          simp at this
          omega
        have hj3 : j < lh.size := by omega
        have h2 := hall j hj2
        simp [hj3] at h1 h2
        rw [h1] at h2
        cases h2
      have hin : ∀ i ∈ Region.ready .any l.toArray (lh.push false), i < n := fun i hi => by
        obtain ⟨o, ho, _⟩ := (mem_ready.1 hi).2
        have := (Array.getElem?_eq_some_iff.1 ho).1
        simp only [List.size_toArray] at this
        rw [ok.len] at this
        rcases Nat.lt_or_ge i n with h1 | h1
        · exact h1
        · have : i = n := by omega
          subst this
          exact absurd hi hnot
      refine ⟨fun h0 => ?_, fun i hi => ?_⟩
      · exfalso
        obtain ⟨j, hj⟩ := List.exists_mem_of_ne_nil _ hr
        obtain ⟨o, ho, _⟩ := (mem_ready.1 hj).2
        have hj2 : j < n := by
          have := (Array.getElem?_eq_some_iff.1 ho).1
          simp at this
          omega
        have := (ready_head ok hs hj2).2 hj
        rw [h0] at this
        cases this
      · have hi2 := hin i hi
        have hq := qOp_head ok hi2 (h.2 i ((ready_head ok hs hi2).1 hi))
        have hcomm : (lh.push false).setIfInBounds i true = (lh.setIfInBounds i true).push false := by
          apply Array.ext_getElem?
          intro k
          have hi3 : i < lh.size := by omega
          rw [Array.getElem?_setIfInBounds, Array.getElem?_push, Array.getElem?_push, Array.getElem?_setIfInBounds]
          simp only [Array.size_setIfInBounds, Array.size_push]
          by_cases hk : i = k
          · subst hk
            rw [if_pos rfl, if_pos rfl, if_pos (by omega), if_pos hi3, if_neg (by omega)]
          · rw [if_neg hk, if_neg hk]
        rw [hcomm]
        have hcl' : Closed l n (lh.setIfInBounds i true) := by
          intro j o hj ho hlj e he hb
          have keep : ∀ q, lh.getD q false = true → (lh.setIfInBounds i true).getD q false = true := fun q hq => by
            by_cases hqi : i = q
            · subst hqi; have : i < lh.size := by omega
              simp [this]
            · simp [hqi] at hq ⊢; exact hq
          by_cases hji : i = j
          · subst hji
            obtain ⟨_, o', ho', h2⟩ := mem_ready.1 ((ready_head ok hs hi2).1 hi)
            have : o' = o := by
              rw [take_get i hi2, List.getElem?_toArray, ho] at ho'
              exact (Option.some.inj ho').symm
            subst this
            exact keep _ (h2 e he hb)
          · have : lh.getD j false = true := by simp [hji] at hlj ⊢; exact hlj
            exact keep _ (hcl j o hj ho this e he hb)
        exact wpOp_of_qOp hw (fun a' w' hw' hk => ih (lh.setIfInBounds i true) a' (by simp [hs]) hcl' hk w' hw') hq

/-- ONE WALK OF THE TEXT's ORDER SERVES EVERY ORDER, with one operation behind all the others that may do whatever it likes. -/
theorem wp_region_quiet_tail {id : Nat} {Q : Exit → Act → World → Prop} {a : Act} {w : World} (n : Nat) (hm : P.follows .mixedOrders = true) (hB : tailB l n = true)
    (h : wpQuiet P (l.take n).toArray (fun w' => ∃ k, w' = w.drewN k) (fun a' => ∀ w', (∃ k, w' = w.drewN k) → wpList P l.toArray Q (l.drop n) a' w') (l.take n) a) : (Code.region id l.toArray true).wp P Q a w := by
  have ok := tailB_ok hB
  have htl : (l.take n).length = n := by simp [ok.len]
  refine wp_region_any hm ?_
  have h1 := wpAnyQ_lex (md := .any) ok.noSel (l.take n) 0 (Array.replicate (l.take n).toArray.size false) a (by simp) (by simpa using ok.lex) h
  rw [htl] at h1
  have h2 := wpAny_tail ok (Q := Q) n (Array.replicate (l.take n).toArray.size false) a (by simpa using htl) (fun j o _ _ h => (by rw [getD_replicate_false] at h; cases h)) h1 { w with drawn := w.drawn + 1 } ⟨1, rfl⟩
  have e : Array.replicate l.toArray.size false = (Array.replicate (l.take n).toArray.size false).push false := by
    simp [ok.len, Array.replicate_succ]
  rw [e, show l.toArray.size = n + 1 by simpa using ok.len]
  exact h2
end
#print axioms wp_region_quiet_tail
end Go.Proofs.Ytdecbimklomdjaa
