/- (With guarded operations.) A region that draws its order, whose first operations (reads, addresses, calls, new variables) leave all memory that was there as it was, and whose last operations wait for all of these: each operation is looked at once, over what the operations that it waits for have yielded. -/
import Derived.StillTail
import Derived.Below
import Derived.BigFrame
import Derived.Deep.QuietTactic
namespace Go.Proofs.Ytdecbimklomdjaa.G
open Go Go.RowKit

/-- What an operation waits for. -/
def depsOf (o : Oper) : List Nat := (o.after.toList.filter (Region.binds .any)).map (·.on)
/-- The slot that operation i of the head writes. -/
def dstOf (hd : List Oper) (i : Nat) : Nat := ((hd[i]?).bind (·.dst)).getD 0
def dstsOf' (hd : List Oper) : List Nat := hd.filterMap (·.dst)
/-- The frame behind the whole head. -/
def putHeads (a : Act) (hd : List Oper) (vals : Nat → Value) : Act :=
  (hd.zipIdx).foldl (fun a p => a.put p.1.dst (vals p.2)) a

/-- Is the operation wanted, by what the one that guards it has yielded? -/
def gd (o : Oper) (vals : Nat → Value) : Bool :=
  match o.guard with
  | none => true
  | some (g, b) => match vals g with
    | .bool x => x == b
    | _ => false
/-- One operation's part: from whatever frame and world its turn may find. -/
def headOp (P : Program) (Q : Exit → Act → World → Prop) (w0 : World) (Φ : Nat → Value → World → Prop) (a0 : Act) (hd : List Oper) (j : Nat) (o : Oper) : Prop :=
  ∀ (vals : Nat → Value) (a : Act) (w : World), Below w0.heap.size w0 w →
    (∀ t, t ∉ dstsOf' hd → a.eval (.tmp t) = a0.eval (.tmp t)) →
    (∀ i, i ∈ depsOf o → a.eval (.tmp (dstOf hd i)) = vals i ∧ Φ i (vals i) w) →
    if gd o vals = true then o.wp P a w (fun a' w' => ∃ v, a' = a.put o.dst v ∧ Below w.heap.size w w' ∧ Φ j v w') Q else Φ j undef w
def headOps (P : Program) (Q : Exit → Act → World → Prop) (w0 : World) (Φ : Nat → Value → World → Prop) (a0 : Act) (hd : List Oper) : Nat → List Oper → Prop
  | _, [] => True
  | j, o :: rest => headOp P Q w0 Φ a0 hd j o ∧ headOps P Q w0 Φ a0 hd (j + 1) rest

theorem headOps_get {P : Program} {Q : Exit → Act → World → Prop} {w0 : World} {Φ : Nat → Value → World → Prop} {a0 : Act} {hd : List Oper} :
    ∀ (l : List Oper) (k : Nat), headOps P Q w0 Φ a0 hd k l → ∀ i o, l[i]? = some o → headOp P Q w0 Φ a0 hd (k + i) o
  | [], _, _, i, o, h => by simp at h
  | x :: l, k, h, 0, o, ho => by
    simp at ho
    subst ho
    exact h.1
  | x :: l, k, h, i + 1, o, ho => by
    have := headOps_get l (k + 1) h.2 i o (by simpa using ho)
    rwa [show k + 1 + i = k + (i + 1) by omega] at this

def monoB (l : List Oper) (n : Nat) (size : Nat) : Bool :=
  decide (n ≤ l.length) &&
  ((List.range n).all fun j => match l[j]? with
    | some o => (match o.guard with | none => true | some (g, _) => (depsOf o).contains g) && (match o.dst with | some d => decide (d < size) | none => false) && (depsOf o).all fun i => decide (i < j)
    | none => false) &&
  decide ((dstsOf' (l.take n)).Nodup) &&
  ((List.range l.length).all fun t => decide (t < n) || (match l[t]? with
    | some o => (List.range n).all fun i => (depsOf o).contains i || (depsOf o).any fun j => decide (j < n) && (match l[j]? with | some p => (depsOf p).contains i | none => false)
    | none => false)) &&
  Region.seqB .any l.toArray (l.length - n) n (Array.replicate n true ++ Array.replicate (l.length - n) false)

structure MonoOk (l : List Oper) (n : Nat) (size : Nat) : Prop where
  len : n ≤ l.length
  guard : ∀ j o, j < n → l[j]? = some o → ∀ g b, o.guard = some (g, b) → g ∈ depsOf o
  dst : ∀ j o, j < n → l[j]? = some o → ∃ d, o.dst = some d ∧ d < size
  before : ∀ j o, j < n → l[j]? = some o → ∀ i, i ∈ depsOf o → i < j
  nodup : (dstsOf' (l.take n)).Nodup
  tail : ∀ t o, n ≤ t → l[t]? = some o → ∀ i, i < n → i ∈ depsOf o ∨ ∃ j p, j < n ∧ l[j]? = some p ∧ j ∈ depsOf o ∧ i ∈ depsOf p
  seq : Region.seqB .any l.toArray (l.length - n) n (Array.replicate n true ++ Array.replicate (l.length - n) false) = true

theorem monoB_ok {l : List Oper} {n size : Nat} (h : monoB l n size = true) : MonoOk l n size := by
  unfold monoB at h
  simp only [Bool.and_eq_true, decide_eq_true_eq] at h
  obtain ⟨⟨⟨⟨h1, h2⟩, h3⟩, h4⟩, h5⟩ := h
  have h2' : ∀ j o, j < n → l[j]? = some o → (match o.guard with | none => true | some (g, _) => (depsOf o).contains g) = true ∧ (match o.dst with | some d => decide (d < size) | none => false) = true ∧ ∀ i, i ∈ depsOf o → i < j := by
    intro j o hj ho
    have := List.all_eq_true.1 h2 j (List.mem_range.2 hj)
    rw [ho] at this
    simp only [Bool.and_eq_true] at this
    exact ⟨this.1.1, this.1.2, fun i hi => by simpa using List.all_eq_true.1 this.2 i hi⟩
  refine ⟨h1, fun j o hj ho g b hg => by have := (h2' j o hj ho).1; rw [hg] at this; simpa using this, fun j o hj ho => ?_, fun j o hj ho => (h2' j o hj ho).2.2, h3, fun t o ht ho i hi => ?_, h5⟩
  · have := (h2' j o hj ho).2.1
    cases hd : o.dst with
    | none => simp [hd] at this
    | some d => exact ⟨d, rfl, by simpa [hd] using this⟩
  · have htl : t < l.length := (List.getElem?_eq_some_iff.1 ho).1
    have := List.all_eq_true.1 h4 t (List.mem_range.2 htl)
    rw [ho] at this
    simp only [Bool.or_eq_true, decide_eq_true_eq] at this
    rcases this with h | h
    · omega
    · have h' := List.all_eq_true.1 h i (List.mem_range.2 hi)
      simp only [Bool.or_eq_true, List.contains_iff_mem, List.any_eq_true, Bool.and_eq_true, decide_eq_true_eq] at h'
      rcases h' with h' | ⟨j, h1, h2, h3⟩
      · exact .inl h'
      · cases hp : l[j]? with
        | none => rw [hp] at h3; cases h3
        | some p => rw [hp] at h3; exact .inr ⟨j, p, h2, hp, h1, by simpa using h3⟩

theorem mem_depsOf {o : Oper} {i : Nat} : i ∈ depsOf o ↔ ∃ e ∈ o.after, Region.binds .any e = true ∧ e.on = i := by
  unfold depsOf
  simp only [List.mem_map, List.mem_filter, Array.mem_toList_iff]
  constructor
  · rintro ⟨e, ⟨h1, h2⟩, h3⟩; exact ⟨e, h1, h2, h3⟩
  · rintro ⟨e, h1, h2, h3⟩; exact ⟨e, ⟨h1, h2⟩, h3⟩

section
variable {P : Program} {l : List Oper} {n : Nat}

theorem mem_ready' {j : Nat} {listed : Array Bool} : j ∈ Region.ready .any l.toArray listed ↔
    listed.getD j true = false ∧ ∃ o, l[j]? = some o ∧ ∀ i ∈ depsOf o, listed.getD i false = true := by
  rw [mem_ready]
  simp only [List.getElem?_toArray, mem_depsOf]
  constructor
  · rintro ⟨h1, o, ho, h2⟩
    refine ⟨h1, o, ho, ?_⟩
    rintro i ⟨e, he, hb, rfl⟩
    exact h2 e he hb
  · rintro ⟨h1, o, ho, h2⟩
    exact ⟨h1, o, ho, fun e he hb => h2 e.on ⟨e, he, hb, rfl⟩⟩

/-- What a slot holds behind the head. -/
theorem putHeads_get (vals : Nat → Value) : ∀ (hd : List Oper) (k : Nat) (a : Act), (hd.filterMap (·.dst)).Nodup → (∀ o ∈ hd, ∃ d, o.dst = some d ∧ d < a.tmps.size) →
    ((hd.zipIdx k).foldl (fun a p => a.put p.1.dst (vals p.2)) a).defers = a.defers ∧
    ((hd.zipIdx k).foldl (fun a p => a.put p.1.dst (vals p.2)) a).tmps.size = a.tmps.size ∧
    (∀ t, t ∉ hd.filterMap (·.dst) → ((hd.zipIdx k).foldl (fun a p => a.put p.1.dst (vals p.2)) a).tmps[t]? = a.tmps[t]?) ∧
    (∀ i o d, hd[i]? = some o → o.dst = some d → ((hd.zipIdx k).foldl (fun a p => a.put p.1.dst (vals p.2)) a).tmps[d]? = some (vals (k + i)))
  | [], k, a, _, _ => ⟨rfl, rfl, fun _ _ => rfl, fun i o d h => by simp at h⟩
  | x :: hd, k, a, hn, hds => by
    obtain ⟨dx, hdx, hlt⟩ := hds x (by simp)
    have hn' : dx ∉ hd.filterMap (·.dst) ∧ (hd.filterMap (·.dst)).Nodup := by simpa [hdx] using hn
    have hsz : (a.put x.dst (vals k)).tmps.size = a.tmps.size := by simp [Act.put, hdx]
    obtain ⟨i1, i2, i3, i4⟩ := putHeads_get vals hd (k + 1) (a.put x.dst (vals k)) hn'.2 (fun o ho => by rw [hsz]; exact hds o (by simp [ho]))
    rw [List.zipIdx_cons, List.foldl_cons]
    refine ⟨i1.trans (by simp [Act.put, hdx]), i2.trans hsz, fun t ht => ?_, fun i o d hi ho => ?_⟩
    · have ht' : t ≠ dx ∧ t ∉ hd.filterMap (·.dst) := by simpa [hdx] using ht
      rw [i3 t ht'.2]
      simp [Act.put, hdx, Ne.symm ht'.1]
    · cases i with
      | zero =>
        simp at hi
        subst hi
        have : d = dx := Option.some.inj (ho.symm.trans hdx)
        subst this
        rw [i3 d hn'.1]
        simp [Act.put, hdx, hlt]
      | succ i =>
        have := i4 i o d (by simpa using hi) ho
        rwa [show k + 1 + i = k + (i + 1) by omega] at this

structure MonoInv (l : List Oper) (n : Nat) (a0 : Act) (w0 : World) (Φ : Nat → Value → World → Prop) (listed : Array Bool) (vals : Nat → Value) (a : Act) (w : World) : Prop where
  size : listed.size = l.length
  tail : ∀ t, n ≤ t → listed.getD t false = false
  defers : a.defers = a0.defers
  tsize : a.tmps.size = a0.tmps.size
  same : ∀ t, t ∉ dstsOf' (l.take n) → a.tmps[t]? = a0.tmps[t]?
  has : ∀ i o d, i < n → l[i]? = some o → o.dst = some d → listed.getD i false = true → a.tmps[d]? = some (vals i) ∧ Φ i (vals i) w
  below : Below w0.heap.size w0 w
  closed : ∀ i o, i < n → l[i]? = some o → listed.getD i false = true → ∀ q, q ∈ depsOf o → listed.getD q false = true

theorem wpAny_mono {Q : Exit → Act → World → Prop} {Φ : Nat → Value → World → Prop} {a0 : Act} {w0 : World} (ok : MonoOk l n a0.tmps.size)
    (stable : ∀ i v w w', Φ i v w → Below w.heap.size w w' → Φ i v w')
    (hops : headOps P Q w0 Φ a0 (l.take n) 0 (l.take n))
    (htail : ∀ vals w, Below w0.heap.size w0 w → (∀ i, i < n → Φ i (vals i) w) → wpList P l.toArray Q (l.drop n) (putHeads a0 (l.take n) vals) w) :
    ∀ (f : Nat) (listed : Array Bool) (vals : Nat → Value) (a : Act) (w : World), MonoInv l n a0 w0 Φ listed vals a w →
      (((List.range n).filter fun i => !listed.getD i false).length = f) → wpAny P .any l.toArray Q (f + (l.length - n)) listed a w := by
  have hdl : (l.drop n).length = l.length - n := by simp
  have dstIn : ∀ i o d, i < n → l[i]? = some o → o.dst = some d → d ∈ dstsOf' (l.take n) := fun i o d hi ho hd =>
    List.mem_filterMap.2 ⟨o, List.mem_iff_getElem?.2 ⟨i, by rw [List.getElem?_take, if_pos hi, ho]⟩, hd⟩
  have dstNe : ∀ i j oi oj di dj, i < n → j < n → l[i]? = some oi → l[j]? = some oj → oi.dst = some di → oj.dst = some dj → i ≠ j → di ≠ dj := by
    intro i j oi oj di dj hi hj hoi hoj hdi hdj hij heq
    subst heq
    obtain ⟨_, _, p3, p4⟩ := putHeads_get (fun k => if k = i then .bool true else .bool false) (l.take n) 0 { tmps := Array.replicate a0.tmps.size undef, defers := [] } ok.nodup (fun o ho => by
      obtain ⟨k, hk⟩ := List.mem_iff_getElem?.1 ho
      rw [List.getElem?_take] at hk
      split at hk
      · rename_i hkn
        obtain ⟨d, h1, h2⟩ := ok.dst k o hkn hk
        exact ⟨d, h1, by simpa using h2⟩
      · cases hk)
    have e1 := p4 i oi di (by rw [List.getElem?_take, if_pos hi, hoi]) hdi
    have e2 := p4 j oj di (by rw [List.getElem?_take, if_pos hj, hoj]) hdj
    rw [e1] at e2
    simp [Ne.symm hij] at e2
  intro f
  induction f with
  | zero =>
    intro listed vals a w inv hf
    have hall : ∀ i, i < n → listed.getD i false = true := by
      intro i hi
      cases hc : listed.getD i false with
      | true => rfl
      | false =>
        have : i ∈ (List.range n).filter fun i => !listed.getD i false := by simp [List.mem_filter, hi]; simpa using hc
        rw [List.length_eq_zero_iff.1 hf] at this
        cases this
    have hlist : listed = Array.replicate n true ++ Array.replicate (l.length - n) false := by
      apply Array.ext
      · have := ok.len
        simp [inv.size]; omega
      · intro i h1 h2
        by_cases hi : i < n
        · have := hall i hi
          simp [h1] at this
          simp [this, hi]
        · have := inv.tail i (by omega)
          simp [h1] at this
          simp [this, Array.getElem_append, hi]
    have ha : a = putHeads a0 (l.take n) vals := by
      obtain ⟨p1, p2, p3, p4⟩ := putHeads_get vals (l.take n) 0 a0 ok.nodup (fun o ho => by
        obtain ⟨k, hk⟩ := List.mem_iff_getElem?.1 ho
        rw [List.getElem?_take] at hk
        split at hk
        · rename_i hkn; exact ok.dst k o hkn hk
        · cases hk)
      have htm : a.tmps = (putHeads a0 (l.take n) vals).tmps := by
        apply Array.ext_getElem?
        intro t
        by_cases ht : t ∈ dstsOf' (l.take n)
        · obtain ⟨o, ho, hd⟩ := List.mem_filterMap.1 ht
          obtain ⟨k, hk⟩ := List.mem_iff_getElem?.1 ho
          have hk' := hk
          rw [List.getElem?_take] at hk
          split at hk
          · rename_i hkn
            rw [(inv.has k o t hkn hk hd (hall k hkn)).1]
            have := p4 k o t hk' hd
            rw [Nat.zero_add] at this
            exact this.symm
          · cases hk
        · rw [inv.same t ht]
          exact (p3 t ht).symm
      have hdf : a.defers = (putHeads a0 (l.take n) vals).defers := inv.defers.trans p1.symm
      cases a
      simp only at htm hdf
      rw [htm, hdf]
    have hw := htail vals w inv.below (fun i hi => by
      have hlt : i < l.length := Nat.lt_of_lt_of_le hi ok.len
      obtain ⟨d, hd, _⟩ := ok.dst i l[i] hi (by simp)
      exact (inv.has i l[i] d hi (by simp) hd (hall i hi)).2)
    have := wpAny_of_seq (md := .any) (ops := l.toArray) (Q' := Q) (l.drop n) n listed a w (fun j => by simp [List.getElem?_drop]) (by rw [hdl, hlist]; exact ok.seq) (by rw [ha]; exact hw)
    rwa [hdl, ← Nat.zero_add (l.length - n)] at this
  | succ f ih =>
    intro listed vals a w inv hf
    -- some operation of the head has not come up: the first such may
    have hex : ∃ i, i < n ∧ listed.getD i false = false := by
      have : ((List.range n).filter fun i => !listed.getD i false) ≠ [] := by intro h; rw [h] at hf; simp at hf
      obtain ⟨i, hi⟩ := List.exists_mem_of_ne_nil _ this
      simp only [List.mem_filter, List.mem_range, Bool.not_eq_true'] at hi
      exact ⟨i, hi.1, hi.2⟩
    have hin : ∀ i ∈ Region.ready .any l.toArray listed, i < n := by
      intro i hi
      obtain ⟨_, o, ho, h2⟩ := mem_ready'.1 hi
      rcases Nat.lt_or_ge i n with h | h
      · exact h
      · obtain ⟨k, hk, hkf⟩ := hex
        rcases ok.tail i o h ho k hk with hd | ⟨j, p, hj, hp, hjd, hkd⟩
        · have := h2 k hd
          rw [hkf] at this
          cases this
        · have := inv.closed j p hj hp (h2 j hjd) k hkd
          rw [hkf] at this
          cases this
    rw [show f + 1 + (l.length - n) = (f + (l.length - n)) + 1 by omega]
    refine ⟨fun h0 => ?_, fun i hi => ?_⟩
    · exfalso
      obtain ⟨k, hk, hkf⟩ := hex
      have : ∀ m, m ≤ n → ∀ i, i < m → listed.getD i false = true := by
        intro m
        induction m with
        | zero => intro _ i hi; omega
        | succ m ihm =>
          intro hm i hi
          rcases Nat.lt_or_ge i m with h | h
          · exact ihm (by omega) i h
          · obtain rfl : i = m := by omega
            cases hc : listed.getD i false with
            | true => rfl
            | false =>
              have hlt : i < l.length := Nat.lt_of_lt_of_le (by omega) ok.len
              have : i ∈ Region.ready .any l.toArray listed := mem_ready'.2 ⟨by
                have hl : i < listed.size := by rw [inv.size]; exact hlt
                simp [hl] at hc ⊢; exact hc, l[i], by simp, fun q hq => ihm (by omega) q (ok.before i l[i] (by omega) (by simp) q hq)⟩
              rw [h0] at this
              cases this
      have := this n (Nat.le_refl _) k hk
      rw [hkf] at this
      cases this
    · have hin' := hin i hi
      obtain ⟨hun, o, ho, h2⟩ := mem_ready'.1 hi
      obtain ⟨d, hd, hdlt⟩ := ok.dst i o hin' ho
      have hop := headOps_get (l.take n) 0 hops i o (by rw [List.getElem?_take, if_pos hin', ho])
      rw [Nat.zero_add] at hop
      have hwp := hop vals a w inv.below (fun t ht => by
          show a.tmps.getD t undef = a0.tmps.getD t undef
          simp [inv.same t ht]) (fun q hq => by
          have hqi := ok.before i o hin' ho q hq
          have hql : q < l.length := by have := ok.len; omega
          obtain ⟨dq, hdq, _⟩ := ok.dst q l[q] (by omega) (by simp)
          have hh := inv.has q l[q] dq (by omega) (by simp) hdq (h2 q hq)
          refine ⟨?_, hh.2⟩
          have : dstOf (l.take n) q = dq := by simp [dstOf, show q < n by omega, List.getElem?_eq_getElem hql, hdq]
          rw [this]
          show a.tmps.getD dq undef = vals q
          simp [hh.1])
      unfold wpOp
      simp only [List.getElem?_toArray, ho]
      have hgw : Region.wanted o (yielded l.toArray a.tmps) = gd o vals := by
        unfold Region.wanted gd
        cases hg : o.guard with
        | none => rfl
        | some gb =>
          obtain ⟨g, b⟩ := gb
          have hq := ok.guard i o hin' ho g b hg
          have hqi := ok.before i o hin' ho g hq
          have hql : g < l.length := by have := ok.len; omega
          obtain ⟨dq, hdq, _⟩ := ok.dst g l[g] (by omega) (by simp)
          have hh := (inv.has g l[g] dq (by omega) (by simp) hdq (h2 g hq)).1
          simp only [yielded, List.getElem?_toArray, List.getElem?_eq_getElem hql, Option.bind_some, hdq, hh]
          cases vals g <;> simp
      rw [hgw]
      suffices key : ∀ a' w', (∃ v, a' = a.put o.dst v ∧ Below w.heap.size w w' ∧ Φ i v w') → wpAny P .any l.toArray Q (f + (l.length - n)) (listed.setIfInBounds i true) a' w' by
        by_cases hgd' : gd o vals = true
        · rw [if_pos hgd'] at hwp ⊢
          exact .inl (Oper.wp_mono (fun a' w' hK => key a' w' hK) hwp)
        · rw [if_neg hgd'] at hwp ⊢
          exact key _ _ ⟨undef, rfl, Below.refl _ _, hwp⟩
      rintro a' w' ⟨v, rfl, hbe, hphi⟩
      have hl : i < listed.size := by rw [inv.size]; have := ok.len; omega
      have hadt : d < a.tmps.size := by rw [inv.tsize]; exact hdlt
      have hgd : ∀ q, (listed.setIfInBounds i true).getD q false = if i = q then true else listed.getD q false := by
        intro q
        by_cases hq : i = q
        · subst hq; simp [hl]
        · simp [hq]
      refine ih (listed.setIfInBounds i true) (fun q => if q = i then v else vals q) (a.put o.dst v) w' ⟨by simp [inv.size], fun t ht => by rw [hgd, if_neg (by omega)]; exact inv.tail t ht, by simp [Act.put, hd, inv.defers], by simp [Act.put, hd, inv.tsize], fun t ht => ?_, fun q oq dq hq hoq hdq hlq => ?_, inv.below.trans (hbe.mono inv.below.size), fun j p hj hp hlj q hq => by
        rw [hgd] at hlj ⊢
        by_cases hiq : i = q
        · rw [if_pos hiq]
        · rw [if_neg hiq]
          by_cases hij : i = j
          · subst hij
            obtain rfl : o = p := Option.some.inj (ho.symm.trans hp)
            exact h2 q hq
          · rw [if_neg hij] at hlj
            exact inv.closed j p hj hp hlj q hq⟩ ?_
      · have hne : d ≠ t := fun h => ht (h ▸ dstIn i o d hin' ho hd)
        simp [Act.put, hd, hne, inv.same t ht]
      · by_cases hqi : q = i
        · subst hqi
          have : oq = o := Option.some.inj (hoq.symm.trans ho)
          subst this
          have : dq = d := Option.some.inj (hdq.symm.trans hd)
          subst this
          simp only [if_true]
          exact ⟨by simp [Act.put, hdq, hadt], hphi⟩
        · rw [hgd, if_neg (fun h => hqi h.symm)] at hlq
          have hh := inv.has q oq dq hq hoq hdq hlq
          have hne := dstNe i q o oq d dq hin' hq ho hoq hd hdq (fun h => hqi h.symm)
          simp only [if_neg hqi]
          exact ⟨by simp [Act.put, hd, hne, hh.1], stable _ _ _ _ hh.2 hbe⟩
      · have hunf : listed.getD i false = false := by simp [hl] at hun ⊢; exact hun
        have e : ((List.range n).filter fun q => !(listed.setIfInBounds i true).getD q false) = ((List.range n).filter fun q => !listed.getD q false).erase i := by
          rw [List.Nodup.erase_eq_filter (List.nodup_range.filter _), List.filter_filter]
          apply List.filter_congr
          intro q _
          rw [hgd]
          by_cases hq : i = q
          · subst hq; simp
          · simp [hq, Ne.symm hq]
        have hmem : i ∈ (List.range n).filter fun q => !listed.getD q false := by simp only [List.mem_filter, List.mem_range, Bool.not_eq_true']; exact ⟨hin', hunf⟩
        rw [e, List.length_erase_of_mem hmem, hf]
        rfl

theorem wp_region_mono {id : Nat} {Q : Exit → Act → World → Prop} {a : Act} {w : World} (n : Nat) (hm : P.follows .mixedOrders = true) (hB : monoB l n a.tmps.size = true)
    (Φ : Nat → Value → World → Prop) (stable : ∀ i v w w', Φ i v w → Below w.heap.size w w' → Φ i v w')
    (hops : headOps P Q w Φ a (l.take n) 0 (l.take n))
    (htail : ∀ vals w', Below w.heap.size w w' → (∀ i, i < n → Φ i (vals i) w') → wpList P l.toArray Q (l.drop n) (putHeads a (l.take n) vals) w') :
    (Code.region id l.toArray true).wp P Q a w := by
  have ok := monoB_ok hB
  refine wp_region_any hm ?_
  have h := wpAny_mono (P := P) (Q := Q) (w0 := w) ok stable hops htail n (Array.replicate l.length false) (fun _ => undef) a { w with drawn := w.drawn + 1 }
    ⟨by simp, fun t _ => by rw [getD_replicate_false], rfl, rfl, fun _ _ => rfl, fun i o d _ _ _ h => (by rw [getD_replicate_false] at h; cases h), ⟨rfl, rfl, rfl, Nat.le_refl _, fun _ _ => rfl⟩, fun i o _ _ h => (by rw [getD_replicate_false] at h; cases h)⟩
    (by
      rw [List.filter_eq_self.2 (fun i _ => by rw [getD_replicate_false]; rfl)]
      simp)
  rw [show n + (l.length - n) = l.length by have := ok.len; omega] at h
  rw [List.size_toArray]
  exact h
end
#print axioms wp_region_mono
end Go.Proofs.Ytdecbimklomdjaa.G
