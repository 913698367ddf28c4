/- A map from hashes to numbers; Laws of a map from hashes to numbers; A map's entry is counted up; A map from hashes to numbers is written. -/
import Derived.Test.YtdecbimklomdjaaOut
import Derived.Maps.Keyed
import Derived.DeepKeys4
namespace Go.Proofs.Ytdecbimklomdjaa
open Go Go.RowKit Go.Shelf
theorem laidOut : laidOutB Try.prog = true := by kernel_rfl
set_option maxRecDepth 100000 in
theorem row28 : (28 : TypeId) < Try.prog.types.size := of_decide_eq_true (by kernel_rfl)
theorem wide28 : (match Try.prog.underlying 28 with | some (.array _ _) | some (.struct _) => true | _ => false) = true := by rw [Try.underlying28]
set_option maxRecDepth 100000 in
theorem keyed28 : Maps.Keyed Try.prog 28 := Maps.Keyed.of_law (deep_law_laid laidOut (m := 2) (by omega) row28 (by kernel_rfl) wide28)
theorem mapM_some {α β : Type} (f : α → Option β) : ∀ xs : List α, (∀ x ∈ xs, ∃ y, f x = some y) → ∃ ys, xs.mapM f = some ys
  | [], _ => ⟨[], rfl⟩
  | x :: xs, h => by
    obtain ⟨y, hy⟩ := h x (by simp)
    obtain ⟨ys, hys⟩ := mapM_some f xs (fun z hz => h z (by simp [hz]))
    exact ⟨y :: ys, by simp [List.mapM_cons, hy, hys]⟩
set_option maxRecDepth 100000 in
theorem keyOf28 (x : List UInt8) (hx : x.length = 32) : ∃ l, Go.keyOf Try.prog 28 (.agg (bytesA x)) = some l := by
  have h1 : Try.prog.keyType 28 = true := by kernel_rfl
  have h2 : Try.prog.cellsOf 28 = 32 := by kernel_rfl
  have h5 : Try.prog.cellsOf 5 = 1 := by kernel_rfl
  have hs : ∃ d, Try.prog.types.size + 1 = d + 2 := ⟨Try.prog.types.size - 1, by have h : 28 < Try.prog.types.size := row28; generalize Try.prog.types.size = n at h ⊢; omega⟩
  obtain ⟨d, hd⟩ := hs
  have hf : (Value.agg (bytesA x)).formed Try.prog 28 = true := by
    simp [Value.formed, Try.underlying28, h2, size_bytesA, hx]
  have hk : ∃ ls, Try.prog.keyLits (d + 2) 28 (bytesA x).toList = some ls := by
    have hl : (bytesA x).toList.length = 32 := by rw [Array.length_toList, size_bytesA, hx]
    unfold Program.keyLits
    rw [Try.underlying28]
    simp only [hl, h2, if_true, h5]
    obtain ⟨ys, hys⟩ := mapM_some (fun i => Try.prog.keyLits (d + 1) 5 (((bytesA x).toList.drop (i * 1)).take 1)) (List.range 32) (fun i hi => by
      have hi' : i < x.length := by rw [hx]; simpa using hi
      have : ((bytesA x).toList.drop (i * 1)).take 1 = [V8 x[i]] := by
        unfold bytesA
        rw [List.toList_toArray, Nat.mul_one, ← List.map_drop, List.drop_eq_getElem_cons hi']
        rfl
      rw [this]
      unfold Program.keyLits
      rw [Try.underlying5]
      have hw : (Lit.int .u8 (x[i].toNat : Int)).wf = true := by
        have := x[i].toNat_lt
        have e1 : IntKind.u8.min = 0 := by decide
        have e2 : IntKind.u8.max = 255 := by decide
        simp [Lit.wf, e1, e2]
        omega
      exact ⟨_, if_pos ⟨rfl, hw⟩⟩)
    rw [hys]
    exact ⟨_, rfl⟩
  obtain ⟨ls, hls⟩ := hk
  refine ⟨.string (keyBytes ls), ?_⟩
  unfold keyOf
  rw [Try.underlying28]
  simp only [h1, hf, Bool.and_self, if_true, hd]
  rw [show (Value.agg (bytesA x)).cells = bytesA x from rfl, hls]
  rfl
end Go.Proofs.Ytdecbimklomdjaa
namespace Go.Proofs.Ytdecbimklomdjaa
open Go Go.RowKit Go.Shelf
/-- The entries of a map, in the order in which they were made. -/
def entriesAt : Nat → List (List UInt8 × Nat) → List MapEntry
  | _, [] => []
  | b, (k, n) :: kv => { key := .agg (bytesA k), val := .int .i64 (n : Int), born := b } :: entriesAt (b + 1) kv
def MapAt (w : World) (m : Nat) (kv : List (List UInt8 × Nat)) : Prop :=
  w.heap[m]? = some (.map (entriesAt 0 kv).toArray kv.length) ∧ (∀ p ∈ kv, p.1.length = 32) ∧ (kv.map (·.1)).Nodup
/-- What a map holds at a hash. -/
def valAt (kv : List (List UInt8 × Nat)) (x : List UInt8) : Nat := ((kv.find? (·.1 == x)).map (·.2)).getD 0
theorem entries_mem : ∀ (kv : List (List UInt8 × Nat)) (b : Nat) (e : MapEntry), e ∈ entriesAt b kv → ∃ p ∈ kv, e.key = .agg (bytesA p.1) ∧ e.val = .int .i64 (p.2 : Int)
  | [], _, e, h => by cases h
  | (k, n) :: kv, b, e, h => by
    rcases List.mem_cons.1 h with rfl | h
    · exact ⟨(k, n), by simp, rfl, rfl⟩
    · obtain ⟨p, hp, h1, h2⟩ := entries_mem kv (b + 1) e h
      exact ⟨p, by simp [hp], h1, h2⟩
theorem bytesA_inj {x y : List UInt8} (h : Value.agg (bytesA x) = .agg (bytesA y)) : x = y := by
  have h1 : (x.map V8) = (y.map V8) := by
    have := Value.agg.inj h
    have := congrArg Array.toList this
    simpa [bytesA] using this
  refine (List.map_inj_right ?_).1 h1
  intro a b hab
  unfold V8 b8 at hab
  have : (a.toNat : Int) = b.toNat := by simpa using hab
  exact UInt8.toNat_inj.1 (by omega)
theorem entries_of : ∀ (kv : List (List UInt8 × Nat)) (b : Nat) (p : List UInt8 × Nat), p ∈ kv → ∃ e ∈ entriesAt b kv, e.key = .agg (bytesA p.1)
  | [], _, p, h => by cases h
  | (k, n) :: kv, b, p, h => by
    rcases List.mem_cons.1 h with rfl | h
    · exact ⟨_, List.mem_cons_self, rfl⟩
    · obtain ⟨e, he, h1⟩ := entries_of kv (b + 1) p h
      exact ⟨e, List.mem_cons_of_mem _ he, h1⟩
theorem valAt_mem : ∀ (kv : List (List UInt8 × Nat)) (p : List UInt8 × Nat), p ∈ kv → (kv.map (·.1)).Nodup → valAt kv p.1 = p.2
  | [], _, h, _ => by cases h
  | q :: kv, p, h, hn => by
    rw [List.map_cons, List.nodup_cons] at hn
    unfold valAt
    rcases List.mem_cons.1 h with rfl | h
    · simp
    · have hne : ¬ q.1 = p.1 := fun e => hn.1 (by rw [e]; exact List.mem_map_of_mem h)
      rw [List.find?_cons_of_neg (by simpa using hne)]
      exact valAt_mem kv p h hn.2
theorem lookup_run (w : World) (m : Nat) (kv : List (List UInt8 × Nat)) (x : List UInt8) (hm : MapAt w m kv) (hx : x.length = 32) : (Instr.lookup 118 (.map (some m)) (.agg (bytesA x)) false).run Try.prog w = .ok (.int .i64 (valAt kv x : Int)) w := by
  obtain ⟨lx, hlx⟩ := keyOf28 x hx
  have hk : ∀ e ∈ (entriesAt 0 kv).toArray.toList, ∃ l, keyOf Try.prog 28 e.key = some l := fun e he => by
    obtain ⟨p, hp, h1, _⟩ := entries_mem kv 0 e (by simpa using he)
    rw [h1]; exact keyOf28 p.1 (hm.2.1 p hp)
  have hz : (zeroValue 3).run Try.prog w = .ok (.int .i64 0) w := by kernel_rfl
  have hc := keyed28.check w (entriesAt 0 kv).isEmpty hlx
  have hfind := keyed28.find w hlx (entriesAt 0 kv) (fun e he => hk e (by simpa using he))
  rcases hfind with ⟨hr, hall⟩ | ⟨j, e, hr, hj, hkey⟩
  · have hv : valAt kv x = 0 := by
      unfold valAt
      have : kv.find? (·.1 == x) = none := List.find?_eq_none.2 fun p hp => by
        intro h
        obtain ⟨e, he, hek⟩ := entries_of kv 0 p hp
        have : p.1 = x := by simpa using h
        exact hall e he (by rw [hek, this])
      rw [this]; rfl
    simp [Instr.lookup, run_underlying Try.underlying118, run_getObj_map w m _ _ hm.1, hc, hr, hz, hv]
  · obtain ⟨p, hp, h1, h2⟩ := entries_mem kv 0 e (List.mem_of_getElem? hj)
    have hpx : p.1 = x := bytesA_inj (h1.symm.trans hkey)
    have hv : valAt kv x = p.2 := by rw [← hpx]; exact valAt_mem kv p hp hm.2.2
    simp [Instr.lookup, run_underlying Try.underlying118, run_getObj_map w m _ _ hm.1, hc, hr, h2, hv]
end Go.Proofs.Ytdecbimklomdjaa
namespace Go.Proofs.Ytdecbimklomdjaa
open Go Go.RowKit Go.Shelf
/-- A count more of this hash. -/
def bumpL : List (List UInt8 × Nat) → List UInt8 → List (List UInt8 × Nat)
  | [], x => [(x, 1)]
  | (k, n) :: kv, x => if k = x then (k, n + 1) :: kv else (k, n) :: bumpL kv x
theorem entries_length : ∀ (kv : List (List UInt8 × Nat)) (b : Nat), (entriesAt b kv).length = kv.length
  | [], _ => rfl
  | (k, n) :: kv, b => by rw [entriesAt, List.length_cons, List.length_cons, entries_length kv]
theorem entries_get : ∀ (kv : List (List UInt8 × Nat)) (b i : Nat), (entriesAt b kv)[i]? = kv[i]?.map fun p => { key := .agg (bytesA p.1), val := .int .i64 (p.2 : Int), born := b + i }
  | [], _, i => by simp [entriesAt]
  | (k, n) :: kv, b, 0 => by simp [entriesAt]
  | (k, n) :: kv, b, i + 1 => by
    rw [entriesAt, List.getElem?_cons_succ, List.getElem?_cons_succ, entries_get kv (b + 1) i]
    congr 1
    funext p
    congr 1
    omega
theorem entries_snoc : ∀ (kv : List (List UInt8 × Nat)) (b : Nat) (x : List UInt8) (n : Nat), entriesAt b (kv ++ [(x, n)]) = entriesAt b kv ++ [{ key := .agg (bytesA x), val := .int .i64 (n : Int), born := b + kv.length }]
  | [], b, x, n => by simp [entriesAt]
  | (k, m) :: kv, b, x, n => by
    rw [List.cons_append, entriesAt, entries_snoc kv (b + 1) x n, entriesAt, List.cons_append, List.length_cons]
    congr 4
    omega
theorem entries_set : ∀ (kv : List (List UInt8 × Nat)) (b i : Nat) (x : List UInt8) (m n : Nat), kv[i]? = some (x, m) → entriesAt b (kv.set i (x, n)) = (entriesAt b kv).modify i fun e => { e with val := .int .i64 (n : Int) }
  | [], _, i, _, _, _, h => by simp at h
  | (k, m') :: kv, b, 0, x, m, n, h => by
    have : (k, m') = (x, m) := by simpa using h
    cases this
    simp [entriesAt]
  | (k, m') :: kv, b, i + 1, x, m, n, h => by
    have := entries_set kv (b + 1) i x m n (by simpa using h)
    simp [entriesAt, this]
theorem bump_new : ∀ (kv : List (List UInt8 × Nat)) (x : List UInt8), (∀ p ∈ kv, p.1 ≠ x) → bumpL kv x = kv ++ [(x, 1)]
  | [], _, _ => rfl
  | (k, n) :: kv, x, h => by
    rw [bumpL, if_neg (h (k, n) (by simp)), bump_new kv x (fun p hp => h p (by simp [hp]))]; rfl
theorem bump_old : ∀ (kv : List (List UInt8 × Nat)) (x : List UInt8) (i n : Nat), (kv.map (·.1)).Nodup → kv[i]? = some (x, n) → bumpL kv x = kv.set i (x, n + 1)
  | [], _, i, _, _, h => by simp at h
  | (k, m) :: kv, x, 0, n, _, h => by
    have : (k, m) = (x, n) := by simpa using h
    cases this
    simp [bumpL]
  | (k, m) :: kv, x, i + 1, n, hn, h => by
    have h' : kv[i]? = some (x, n) := by simpa using h
    rw [List.map_cons, List.nodup_cons] at hn
    have hne : ¬ k = x := fun e => hn.1 (by rw [e]; exact List.mem_map.2 ⟨(x, n), List.mem_of_getElem? h', rfl⟩)
    rw [bumpL, if_neg hne, bump_old kv x i n hn.2 h', List.set_cons_succ]
end Go.Proofs.Ytdecbimklomdjaa
namespace Go.Proofs.Ytdecbimklomdjaa
open Go Go.RowKit Go.Shelf
theorem putObj_eq (w : World) (r : Nat) (o : Obj) : ({ w with heap := w.heap.setIfInBounds r o } : World) = w.putObj r o := rfl
theorem map_nil {w : World} {m : Nat} (h : w.heap[m]? = some (.map #[] 0)) : MapAt w m [] := ⟨h, by simp, by simp⟩
theorem mem_length {w : World} {m : Nat} {kv : List (List UInt8 × Nat)} (h : MapAt w m kv) : m < w.heap.size := (Array.getElem?_eq_some_iff.1 h.1).1
theorem MapAt.put {w : World} {m : Nat} {kv : List (List UInt8 × Nat)} (h : MapAt w m kv) (kv' : List (List UInt8 × Nat)) (h1 : ∀ p ∈ kv', p.1.length = 32) (h2 : (kv'.map (·.1)).Nodup) : MapAt (w.putObj m (.map (entriesAt 0 kv').toArray kv'.length)) m kv' :=
  ⟨World.putObj_heap_same (mem_length h), h1, h2⟩
theorem MapAt.of_block {w w' : World} {m : Nat} {kv : List (List UInt8 × Nat)} (h : MapAt w m kv) (hb : w'.heap[m]? = w.heap[m]?) : MapAt w' m kv := ⟨hb.trans h.1, h.2⟩
theorem MapAt.below {w w' : World} {m : Nat} {kv : List (List UInt8 × Nat)} (h : MapAt w m kv) (hb : Below w.heap.size w w') : MapAt w' m kv := h.of_block (hb.block m (mem_length h))
theorem insert_run (w : World) (m : Nat) (x : List UInt8) (hm : MapAt w m []) (hx : x.length = 32) : (Instr.mapUpdate 118 (.map (some m)) (.agg (bytesA x)) (.int .i64 1)).run Try.prog w = .ok () (w.putObj m (.map (entriesAt 0 [(x, 1)]).toArray 1)) := by
  obtain ⟨lx, hlx⟩ := keyOf28 x hx
  have hc := keyed28.check w false hlx
  have hb : w.heap[m]? = some (.map #[] 0) := hm.1
  have hf : (Instr.findKey 28 (.agg (bytesA x)) #[].toList).run Try.prog w = .ok none w := by
    rcases keyed28.find w hlx [] (by simp) with ⟨hr, _⟩ | ⟨j, e, _, hj, _⟩
    · exact hr
    · simp at hj
  have hf' : (Instr.findKey 28 (.agg (bytesA x)) []).run Try.prog w = .ok none w := hf
  simp [Instr.mapUpdate, run_underlying Try.underlying118, run_getObj_map w m _ _ hb, hc, hf', MapKept.run_setObj_map _ hb, entriesAt, ← putObj_eq]
/-- A hash is entered, if it is not there. -/
def enterL (kv : List (List UInt8 × Nat)) (x : List UInt8) : List (List UInt8 × Nat) := if kv.any (·.1 == x) then kv else kv ++ [(x, 0)]
theorem valAt_none {kv : List (List UInt8 × Nat)} {x : List UInt8} (h : ∀ p ∈ kv, p.1 ≠ x) : valAt kv x = 0 := by
  unfold valAt
  have : kv.find? (·.1 == x) = none := List.find?_eq_none.2 fun p hp => by simpa using h p hp
  rw [this]; rfl
theorem entry_run (w : World) (m : Nat) (kv : List (List UInt8 × Nat)) (x : List UInt8) (hm : MapAt w m kv) (hx : x.length = 32) :
    ∃ i : Nat, (Instr.mapEntry 118 (.map (some m)) (.agg (bytesA x))).run Try.prog w = .ok (.tuple #[.int .i64 (valAt kv x : Int), .int .i64 (i : Int)]) (w.putObj m (.map (entriesAt 0 (enterL kv x)).toArray (enterL kv x).length)) ∧ (enterL kv x)[i]? = some (x, valAt kv x) ∧ (∀ p ∈ enterL kv x, p.1.length = 32) ∧ ((enterL kv x).map (·.1)).Nodup ∧ (enterL kv x).set i (x, valAt kv x + 1) = bumpL kv x := by
  obtain ⟨lx, hlx⟩ := keyOf28 x hx
  have hk : ∀ e ∈ entriesAt 0 kv, ∃ l, keyOf Try.prog 28 e.key = some l := fun e he => by
    obtain ⟨p, hp, h1, _⟩ := entries_mem kv 0 e he
    rw [h1]; exact keyOf28 p.1 (hm.2.1 p hp)
  have hz : (zeroValue 3).run Try.prog w = .ok (.int .i64 0) w := by kernel_rfl
  have hc := keyed28.check w false hlx
  have hfind := keyed28.find w hlx (entriesAt 0 kv) hk
  rcases hfind with ⟨hr, hall⟩ | ⟨j, e, hr, hj, hkey⟩
  · have hno : ∀ p ∈ kv, p.1 ≠ x := fun p hp h => by
      obtain ⟨e, he, hek⟩ := entries_of kv 0 p hp
      exact hall e he (by rw [hek, h])
    have hany : kv.any (·.1 == x) = false := by
      rw [List.any_eq_false]; intro p hp; simpa using hno p hp
    have he : enterL kv x = kv ++ [(x, 0)] := by unfold enterL; rw [hany]; rfl
    have hv := valAt_none hno
    refine ⟨kv.length, ?_, ?_, ?_, ?_, ?_⟩
    · rw [he, entries_snoc, hv]
      simp [Instr.mapEntry, run_underlying Try.underlying118, run_getObj_map w m _ _ hm.1, hc, hr, hz, MapKept.run_setObj_map _ hm.1, goInt, ← putObj_eq]
    · rw [he, hv]; simp
    · rw [he]; intro p hp
      rcases List.mem_append.1 hp with hp | hp
      · exact hm.2.1 p hp
      · have : p = (x, 0) := by simpa using hp
        rw [this]; exact hx
    · rw [he, List.map_append, List.nodup_append]
      refine ⟨hm.2.2, by simp, ?_⟩
      intro a ha b hb hab
      obtain ⟨p, hp, rfl⟩ := List.mem_map.1 ha
      have : b = x := by simpa using hb
      exact hno p hp (hab.trans this)
    · rw [he, hv, bump_new kv x hno, List.set_append_right _ _ (Nat.le_refl _)]; simp
  · obtain ⟨p, hp, h1, h2⟩ := entries_mem kv 0 e (List.mem_of_getElem? hj)
    have hpx : p.1 = x := bytesA_inj (h1.symm.trans hkey)
    rw [entries_get] at hj
    obtain ⟨q, hq, hqe⟩ : ∃ q, kv[j]? = some q ∧ ({ key := .agg (bytesA q.1), val := .int .i64 (q.2 : Int), born := 0 + j } : MapEntry) = e := by
      cases hh : kv[j]? with
      | none => rw [hh] at hj; simp at hj
      | some q => rw [hh] at hj; exact ⟨q, rfl, by simpa using hj⟩
    have hqx : q.1 = x := bytesA_inj ((congrArg MapEntry.key hqe).trans hkey)
    have hv : valAt kv x = q.2 := by rw [← hqx]; exact valAt_mem kv q (List.mem_of_getElem? hq) hm.2.2
    have hany : kv.any (·.1 == x) = true := List.any_eq_true.2 ⟨q, List.mem_of_getElem? hq, by simpa using hqx⟩
    have he : enterL kv x = kv := by unfold enterL; rw [hany]; rfl
    have hst := keyed28.stays w hlx
    have hjlt := (List.getElem?_eq_some_iff.1 hq).1
    have hel : (entriesAt 0 kv)[j]? = some e := by rw [entries_get, hq, ← hqe]; rfl
    have hea : (entriesAt 0 kv).toArray[j]? = some e := by simpa using hel
    have hborn : e.born = j := by rw [← hqe]; simp
    have hmod : (entriesAt 0 kv).toArray.modify j (fun e => { e with key := .agg (bytesA x) }) = (entriesAt 0 kv).toArray := by
      apply Array.ext_getElem?
      intro i
      rw [Array.getElem?_modify]
      by_cases hij : j = i
      · subst hij
        rw [if_pos rfl, hea]
        simp [← hkey]
      · rw [if_neg hij]
    refine ⟨j, ?_, ?_, ?_, ?_, ?_⟩
    · have e2 : e.val = .int .i64 (valAt kv x : Int) := by rw [hv, ← hqe]
      rw [he]
      simp [Instr.mapEntry, run_underlying Try.underlying118, run_getObj_map w m _ _ hm.1, hc, hr, hel, hkey, hst, hborn, MapKept.run_setObj_map _ hm.1, goInt, e2]
      rw [← putObj_eq]
      rw [← List.modify_toArray, hmod]
    · rw [he, hq, hv, ← hqx]
    · rw [he]; exact hm.2.1
    · rw [he]; exact hm.2.2
    · rw [he, hv]; exact (bump_old kv x j q.2 hm.2.2 (by rw [hq, ← hqx])).symm
theorem bornAt (kv : List (List UInt8 × Nat)) (i : Nat) (h : i < kv.length) : (entriesAt 0 kv).findIdx? (fun e => (e.born : Int) == (i : Int)) = some i := by
  rw [List.findIdx?_eq_some_iff_getElem]
  have hl := entries_length kv 0
  have hg : ∀ j, (hj : j < (entriesAt 0 kv).length) → ((entriesAt 0 kv)[j]).born = j := fun j hj => by
    have h1 := List.getElem?_eq_getElem hj
    rw [entries_get] at h1
    cases hk : kv[j]? with
    | none => rw [hk] at h1; simp at h1
    | some q => rw [hk] at h1; have := Option.some.inj h1; rw [← this]; simp
  refine ⟨by omega, ?_, ?_⟩
  · rw [hg]; simp
  · intro j hj; rw [hg]; simp; omega
theorem entryStore_run (w : World) (m : Nat) (kv : List (List UInt8 × Nat)) (x : List UInt8) (n n' i : Nat) (hm : MapAt w m kv) (hi : kv[i]? = some (x, n')) :
    (Instr.entryStore 118 (.map (some m)) (.int .i64 (i : Int)) (.int .i64 (n : Int))).run Try.prog w = .ok () (w.putObj m (.map (entriesAt 0 (kv.set i (x, n))).toArray (kv.set i (x, n)).length)) := by
  have hlt := (List.getElem?_eq_some_iff.1 hi).1
  have hb := bornAt kv i hlt
  have hb' : (entriesAt 0 kv).toArray.findIdx? (fun e => (e.born : Int) == (i : Int)) = some i := by rw [List.findIdx?_toArray]; exact hb
  rw [entries_set kv 0 i x n' n hi, List.length_set]
  simp [Instr.entryStore, run_getObj_map w m _ _ hm.1, asInt, asIntOf, hb, MapKept.run_setObj_map _ hm.1, ← putObj_eq]
end Go.Proofs.Ytdecbimklomdjaa
