/- purserlaw04.ShaNames: the examples, a region that draws its order. -/
import Derived.Test.YtdecbimklomdjaaNmB
import Derived.Test.YtdecbimklomdjaaMonoS
import Derived.Lib.ConvBytes
namespace Go.Proofs.Ytdecbimklomdjaa
open Go Go.RowKit Go.Shelf
/-- An operation of a plain region, out of its run. -/
theorem wpList_val {P : Program} {ops : Array Oper} {rest : List Oper} {o : Oper} {a : Act} {w w' : World} {Q : Exit → Act → World → Prop} (hgd : o.guard = none) (v : Value) (h : (execOp a.eval o).run P w = .ok (.value v) w')
    (hK : wpList P ops Q rest (a.put o.dst v) w') : wpList P ops Q (o :: rest) a w :=
  wpList_plain hgd fun K hK' => by
    unfold Oper.wp
    rw [h]
    exact hK' _ _ hK
theorem conv_run {P : Program} {o : Oper} {ρ : Operand → Value} {w w' : World} {src dst : TypeId} {x : Operand} {u v : Value} (ho : o.op = .convert src dst x) (hx : ρ x = u) (h : (convert src dst u).run P w = .ok v w') : (execOp ρ o).run P w = .ok (.value v) w' := by
  unfold execOp
  simp only [ho, hx, Sem.run_bind, h, Result.andThen_ok]
  rfl
theorem below_bytesWorld (w : World) (s : ByteArray) : Below w.heap.size w (Lib.bytesWorld w 5 s) :=
  ⟨by unfold Lib.bytesWorld World.freeze; split <;> rfl, by unfold Lib.bytesWorld World.freeze; split <;> rfl, by unfold Lib.bytesWorld World.freeze; split <;> rfl, by rw [Lib.bytesWorld_size]; omega, fun k hk => Lib.bytesWorld_at_old w 5 s k hk⟩
theorem bytesAt_conv (w : World) (l : List UInt8) (hl : l.length ≤ maxLen) : BytesAt (Lib.bytesWorld w 5 ⟨l.toArray⟩) (.slice (some ⟨w.heap.size, 0, none⟩) l.length (grownCap w l.length 0 5)) l := by
  refine .inr ⟨w.heap.size, 0, _, rfl, grownCap_ge _ _ _ _, grownCap_le_maxLen _ _ _ _ hl, by rw [Lib.bytesWorld_size]; omega, ?_⟩
  refine rangeAt_of_row (Lib.bytesWorld_at_new w 5 ⟨l.toArray⟩) 0 _ (fun j v hv => ?_)
  have hj : j < l.length := by simpa using (List.getElem?_eq_some_iff.1 hv).1
  rw [Nat.zero_add]
  unfold Lib.bytesCells
  rw [Array.getElem?_append_left (by simpa using hj), Array.getElem?_map]
  rw [List.getElem?_map] at hv
  simpa [List.getElem?_toArray, V8, b8] using hv
theorem conv_mark (w : World) (b o n c : Nat) (cs : Array Value) (t : TypeId) (fr : Nat × Nat) (hg : w.heap[b]? = some (.cells cs t fr)) : (convert 25 25 (.slice (some ⟨b, o, none⟩) n c)).run Try.prog w = .ok (.slice (some ⟨b, o, none⟩) n c) (w.freeze ⟨b, cs.size, none⟩ 1) := by
  have hsh : w.shape? b = some (t, cs.size) := by unfold World.shape?; rw [hg]
  simp [convert, run_underlying Try.underlying25, run_underlying Try.underlying5, markStringish, hsh]
theorem soft_freeze (w : World) (B b k : Nat) (hB : B ≤ b) : Sf.Soft B w (w.freeze ⟨b, k, none⟩ 1) := by
  unfold World.freeze
  rw [if_neg (by decide)]
  refine ⟨⟨rfl, rfl, rfl, by simp, fun j hj => ?_⟩, fun j o v hv => ?_⟩
  · show (w.heap.modify b _)[j]? = _
    rw [Array.getElem?_modify, if_neg (by omega)]
  · unfold World.cell? at hv ⊢
    simp only [Array.getElem?_modify]
    by_cases hj : b = j
    · subst hj
      rw [if_pos rfl]
      cases hw : w.heap[b]? with
      | none => simp [hw] at hv
      | some x =>
        simp only [hw] at hv
        cases x <;> first | exact hv | cases hv
    · rw [if_neg hj]; exact hv
theorem BytesAt.soft {B : Nat} {w w' : World} {v : Value} {l : List UInt8} (h : BytesAt w v l) (hb : Sf.Soft B w w') : BytesAt w' v l := by
  rcases h with h | ⟨b, o, c, h1, h2, h3, h4, h5⟩
  · exact .inl h
  · exact .inr ⟨b, o, c, h1, h2, h3, Nat.lt_of_lt_of_le h4 hb.1.size, fun j u hu => hb.2 _ _ _ (h5 j u hu)⟩
theorem row_of_bytes {w : World} {b o n c : Nat} {l : List UInt8} (h : BytesAt w (.slice (some ⟨b, o, none⟩) n c) l) (hl : 0 < l.length) : ∃ cs t fr, w.heap[b]? = some (.cells cs t fr) := by
  obtain ⟨b', o', c', h1, _, _, _, h5⟩ := h.full hl
  cases h1
  have hc := h5 0 (V8 l[0]) (by rw [List.getElem?_map, List.getElem?_eq_getElem hl]; rfl)
  unfold World.cell? at hc
  cases hw : w.heap[b]? with
  | none => rw [hw] at hc; cases hc
  | some x =>
    rw [hw] at hc
    cases x <;> first | exact ⟨_, _, _, rfl⟩ | cases hc
def hello : List UInt8 := [104, 101, 108, 108, 111]
theorem eql_run {P : Program} {o : Oper} {ρ : Operand → Value} {w : World} {t : TypeId} {x y : Operand} {u v r : Value} (ho : o.op = .binOp .eql t x y t) (hx : ρ x = u) (hy : ρ y = v) (hg : ∀ W, (eqGuard .eql t x y u v).run P W = .ok () W) (h : (binOp .eql t u v).run P w = .ok r w) : (execOp ρ o).run P w = .ok (.value r) w := by
  unfold execOp
  simp only [ho, hx, hy, Sem.run_bind, hg, h, Result.andThen_ok]
  rfl
def hexLong : List UInt8 := [50, 52, 56, 100, 54, 97, 54, 49, 100, 50, 48, 54, 51, 56, 98, 56, 101, 53, 99, 48, 50, 54, 57, 51, 48, 99, 51, 101, 54, 48, 51, 57, 97, 51, 51, 99, 101, 52, 53, 57, 54, 52, 102, 102, 50, 49, 54, 55, 102, 54, 101, 99, 101, 100, 100, 52, 49, 57, 100, 98, 48, 54, 99, 49]
def hexMill : List UInt8 := [99, 100, 99, 55, 54, 101, 53, 99, 57, 57, 49, 52, 102, 98, 57, 50, 56, 49, 97, 49, 99, 55, 101, 50, 56, 52, 100, 55, 51, 101, 54, 55, 102, 49, 56, 48, 57, 97, 52, 56, 97, 52, 57, 55, 50, 48, 48, 101, 48, 52, 54, 100, 51, 57, 99, 99, 99, 55, 49, 49, 50, 99, 100, 48]
/-- What the operations of ShaNames' region 9 yield. -/
def nm9 (B0 bs D : Nat) (l M : List UInt8) : Nat → Value → World → Prop
  | 0, v, _ => v = .string ⟨l.toArray⟩
  | 1, v, w => BytesAt w v l
  | 2, v, _ => v = .agg (bytesA (Sha.hash l))
  | 3, v, _ => v = .string ⟨(hexL (Sha.hash l)).toArray⟩
  | 4, v, _ => v = .bool true
  | 5, v, _ => v = .bool true
  | 6, v, _ => v = .pointer (some ⟨bs, 0, none⟩)
  | 7, v, _ => v = .agg (bytesA (Sha.hash M))
  | 8, v, _ => v = .string ⟨(hexL (Sha.hash M)).toArray⟩
  | 9, v, _ => v = .bool true
  | 10, v, _ => v = .bool true
  | 11, v, _ => v = .bool true
  | 12, v, _ => v = .pointer (some ⟨bs, 0, none⟩)
  | 13, v, _ => v = .int .u64 1000000
  | 14, v, _ => v = .bool true
  | 15, v, _ => v = .bool true
  | 16, v, _ => v = .bool true
  | 17, v, w => ∃ b, v = .slice (some ⟨b, 0, none⟩) 5 5 ∧ B0 ≤ b ∧ BytesAt w v hello
  | 18, v, w => BytesAt w v hello
  | 19, v, _ => v = .agg (bytesA (twice hello))
  | 20, v, _ => v = .slice (some ⟨D, 0, none⟩) 32 32
  | 21, v, _ => v = .agg (bytesA (twice hello))
  | 22, v, _ => v = .bool true
  | 23, v, _ => v = .bool true
  | 24, v, _ => v = .bool true
  | 25, v, _ => ∃ a c, v = .slice a 20 c
  | 26, v, _ => v = .int .i64 20
  | 27, v, _ => v = .bool true
  | 28, v, _ => v = .bool true
  | _, v, _ => v = .bool true
theorem nm9_stable (B0 bs D : Nat) (l M : List UInt8) (i : Nat) (v : Value) (w w' : World) (h : nm9 B0 bs D l M i v w) {B : Nat} (hb : Sf.Soft B w w') : nm9 B0 bs D l M i v w' := by
  unfold nm9 at *
  split at h <;> first | exact h | exact h.soft hb | (obtain ⟨b, h1, h2, h3⟩ := h; exact ⟨b, h1, h2, h3.soft hb⟩)
noncomputable def ops9 : Array Oper := ((Try.f16.body.bind (regionOf 9)).getD #[])
set_option maxRecDepth 100000 in
theorem put9 (a : Act) (vals : Nat → Value) : G.putHeads a ops9.toList vals = ((((((((((((((((((((((((((((((a.put (some 25) (vals 0)).put (some 26) (vals 1)).put (some 27) (vals 2)).put (some 28) (vals 3)).put (some 29) (vals 4)).put (some 30) (vals 5)).put (some 31) (vals 6)).put (some 32) (vals 7)).put (some 33) (vals 8)).put (some 34) (vals 9)).put (some 35) (vals 10)).put (some 36) (vals 11)).put (some 37) (vals 12)).put (some 38) (vals 13)).put (some 39) (vals 14)).put (some 40) (vals 15)).put (some 41) (vals 16)).put (some 42) (vals 17)).put (some 43) (vals 18)).put (some 44) (vals 19)).put (some 45) (vals 20)).put (some 46) (vals 21)).put (some 47) (vals 22)).put (some 48) (vals 23)).put (some 49) (vals 24)).put (some 50) (vals 25)).put (some 51) (vals 26)).put (some 52) (vals 27)).put (some 53) (vals 28)).put (some 6) (vals 29)) := rfl
set_option maxRecDepth 100000 in
set_option maxHeartbeats 4000000 in
theorem reg9 (bs D : Nat) (l M : List UInt8) (wf : World) (a : Act) (Q : Exit → Act → World → Prop) (hll : l.length ≤ 1000) (hx1 : hexL (Sha.hash l) = hexLong)
    (hx2 : hexL (Sha.hash M) = hexMill) (hmn : M.length = 1000000) (hmz : Sha.mid M ≠ Sha.St.zero) (hsm : SumAt wf bs M)
    (hd : wf.heap[D]? = some (.cells (bytesA (Sha.hash hello)) 28 (0, 0))) (hsz : a.tmps.size = 101) (h1 : a.eval (.tmp 1) = .string ⟨l.toArray⟩) (h2 : a.eval (.tmp 2) = .pointer (some ⟨bs, 0, none⟩)) (h5 : a.eval (.tmp 5) = .pointer (some ⟨D, 0, none⟩))
    (hQ : ∀ vals wg, vals 29 = .bool true → Below wf.heap.size wf wg → Q .normal (G.putHeads a ops9.toList vals) wg) :
    (Code.region 9 ops9 true).wp Try.prog Q a wf := by
  have HLL : Hid (l.length ≤ maxLen) := Lib.hid (by unfold maxLen; omega)
  have HLB : Hid (l.length ≤ 549755813888) := Lib.hid (by omega)
  have HML : Hid (M.length ≤ 549755813888) := Lib.hid (by omega)
  have HMN := Lib.hid hmn
  have HMZ := Lib.hid hmz
  have HSM := Lib.hid hsm
  have HX1 := Lib.hid hx1
  have HX2 := Lib.hid hx2
  have HD := Lib.hid hd
  clear hll hx1 hx2 hmn hmz hsm hd
  refine Sf.wp_region_mono (l := ops9.toList) 30 (by kernel_rfl) (by rw [hsz]; kernel_rfl) (Sf.Soft wf.heap.size) (Sf.Soft.refl _) Sf.Soft.on (nm9 wf.heap.size bs D l M) (fun i v w w' h hb => nm9_stable wf.heap.size bs D l M i v w w' h hb) ⟨?_, ?_, ?_, ?_, ?_, ?_, ?_, ?_, ?_, ?_, ?_, ?_, ?_, ?_, ?_, ?_, ?_, ?_, ?_, ?_, ?_, ?_, ?_, ?_, ?_, ?_, ?_, ?_, ?_, ?_, trivial⟩ ?_
  · intro vals a w1 hb hs' hd'
    refine want rfl ?_
    have e1 : a.eval (.tmp 1) = Value.string ⟨l.toArray⟩ := (hs' 1 (by decide)).trans h1
    refine Sf.head_val (.string ⟨l.toArray⟩) ?_ (Sf.Soft.refl _ _) rfl
    generalize a.eval = ρ at *
    clear hs' hd'
    go_simp
  · intro vals a w1 hb hs' hd'
    refine want rfl ?_
    have e25 : a.eval (.tmp 25) = Value.string ⟨l.toArray⟩ := (hd' 0 (by decide)).1.trans (hd' 0 (by decide)).2
    have hcv := Lib.run_convert_string_bytes (P := Try.prog) w1 9 25 5 ⟨l.toArray⟩ Try.underlying9 Try.underlying25 Try.underlying5
    exact Sf.head_val _ (conv_run rfl e25 hcv) (Sf.Soft.of hb.size (below_bytesWorld w1 _)) (bytesAt_conv w1 l HLL.out)
  · intro vals a w1 hb hs' hd'
    refine want rfl ?_
    have e26 : a.eval (.tmp 26) = vals 1 := (hd' 1 (by decide)).1
    have p26 : nm9 wf.heap.size bs D l M 1 (vals 1) w1 := (hd' 1 (by decide)).2
    have ef : a.eval (.func 27) = .func (.func 27) #[] #[] := rfl
    generalize vals 1 = v1 at *
    refine Sf.head_call (f := 27) (args := #[v1]) ?_ ((of_any v1 l w1 p26 HLB.out).mono fun e w' h => ⟨_, h.1, Sf.Soft.of hb.size h.2, rfl⟩)
    generalize a.eval = ρ at *
    clear hs' hd'
    go_simp
  · intro vals a w1 hb hs' hd'
    refine want rfl ?_
    have e27 : a.eval (.tmp 27) = Value.agg (bytesA (Sha.hash l)) := (hd' 2 (by decide)).1.trans (hd' 2 (by decide)).2
    have ef : a.eval (.func 67) = .func (.func 67) #[] #[] := rfl
    refine Sf.head_call (f := 67) (args := #[.agg (bytesA (Sha.hash l))]) ?_ ((hex_any (Sha.hash l) (hash_length l) w1).mono fun e w' h => ⟨_, h.1, Sf.Soft.of hb.size h.2, rfl⟩)
    generalize a.eval = ρ at *
    clear hs' hd'
    go_simp
  · intro vals a w1 hb hs' hd'
    refine want rfl ?_
    have e28 : a.eval (.tmp 28) = Value.string ⟨(hexL (Sha.hash l)).toArray⟩ := (hd' 3 (by decide)).1.trans (hd' 3 (by decide)).2
    rw [HX1.out] at e28
    have eqq := eql9 hexLong hexLong w1
    refine Sf.head_val (.bool true) (eql_run (v := .string ⟨hexLong.toArray⟩) rfl e28 rfl (fun W => by simp [eqGuard, go_sem]) (eqq.trans (by rw [beq_self_eq_true]))) (Sf.Soft.refl _ _) rfl
  · intro vals a w1 hb hs' hd'
    refine want rfl ?_
    have e29 : a.eval (.tmp 29) = Value.bool true := (hd' 4 (by decide)).1.trans (hd' 4 (by decide)).2
    refine Sf.head_val (.bool true) ?_ (Sf.Soft.refl _ _) rfl
    generalize a.eval = ρ at *
    clear hs' hd'
    go_simp
  · intro vals a w1 hb hs' hd'
    refine want (gd_some rfl (hd' 5 (by decide)).2) ?_
    have e2 : a.eval (.tmp 2) = Value.pointer (some ⟨bs, 0, none⟩) := (hs' 2 (by decide)).trans h2
    refine Sf.head_val (.pointer (some ⟨bs, 0, none⟩)) ?_ (Sf.Soft.refl _ _) rfl
    generalize a.eval = ρ at *
    clear hs' hd'
    go_simp
  · intro vals a w1 hb hs' hd'
    refine want (gd_some rfl (hd' 5 (by decide)).2) ?_
    have e31 : a.eval (.tmp 31) = Value.pointer (some ⟨bs, 0, none⟩) := (hd' 6 (by decide)).1.trans (hd' 6 (by decide)).2
    have ef : a.eval (.func 23) = .func (.func 23) #[] #[] := rfl
    refine Sf.head_call (f := 23) (args := #[.pointer (some ⟨bs, 0, none⟩)]) ?_ ((end_hash bs M w1 (HSM.out.below hb) HML.out).mono fun e w' h => ⟨_, h.1, Sf.Soft.of hb.size h.2, rfl⟩)
    generalize a.eval = ρ at *
    clear hs' hd'
    go_simp
  · intro vals a w1 hb hs' hd'
    refine want (gd_some rfl (hd' 5 (by decide)).2) ?_
    have e32 : a.eval (.tmp 32) = Value.agg (bytesA (Sha.hash M)) := (hd' 7 (by decide)).1.trans (hd' 7 (by decide)).2
    have ef : a.eval (.func 67) = .func (.func 67) #[] #[] := rfl
    refine Sf.head_call (f := 67) (args := #[.agg (bytesA (Sha.hash M))]) ?_ ((hex_any (Sha.hash M) (hash_length M) w1).mono fun e w' h => ⟨_, h.1, Sf.Soft.of hb.size h.2, rfl⟩)
    generalize a.eval = ρ at *
    clear hs' hd'
    go_simp
  · intro vals a w1 hb hs' hd'
    refine want (gd_some rfl (hd' 5 (by decide)).2) ?_
    have e33 : a.eval (.tmp 33) = Value.string ⟨(hexL (Sha.hash M)).toArray⟩ := (hd' 8 (by decide)).1.trans (hd' 8 (by decide)).2
    rw [HX2.out] at e33
    have eqq := eql9 hexMill hexMill w1
    refine Sf.head_val (.bool true) (eql_run (v := .string ⟨hexMill.toArray⟩) rfl e33 rfl (fun W => by simp [eqGuard, go_sem]) (eqq.trans (by rw [beq_self_eq_true]))) (Sf.Soft.refl _ _) rfl
  · intro vals a w1 hb hs' hd'
    refine want rfl ?_
    have e30 : a.eval (.tmp 30) = Value.bool true := (hd' 5 (by decide)).1.trans (hd' 5 (by decide)).2
    have e34 : a.eval (.tmp 34) = Value.bool true := (hd' 9 (by decide)).1.trans (hd' 9 (by decide)).2
    have ec : a.eval (.const (.bool false)) = .bool false := rfl
    refine Sf.head_val (.bool true) ?_ (Sf.Soft.refl _ _) rfl
    generalize a.eval = ρ at *
    clear hs' hd'
    go_simp
  · intro vals a w1 hb hs' hd'
    refine want rfl ?_
    have e35 : a.eval (.tmp 35) = Value.bool true := (hd' 10 (by decide)).1.trans (hd' 10 (by decide)).2
    refine Sf.head_val (.bool true) ?_ (Sf.Soft.refl _ _) rfl
    generalize a.eval = ρ at *
    clear hs' hd'
    go_simp
  · intro vals a w1 hb hs' hd'
    refine want (gd_some rfl (hd' 11 (by decide)).2) ?_
    have e2 : a.eval (.tmp 2) = Value.pointer (some ⟨bs, 0, none⟩) := (hs' 2 (by decide)).trans h2
    refine Sf.head_val (.pointer (some ⟨bs, 0, none⟩)) ?_ (Sf.Soft.refl _ _) rfl
    generalize a.eval = ρ at *
    clear hs' hd'
    go_simp
  · intro vals a w1 hb hs' hd'
    refine want (gd_some rfl (hd' 11 (by decide)).2) ?_
    have e37 : a.eval (.tmp 37) = Value.pointer (some ⟨bs, 0, none⟩) := (hd' 12 (by decide)).1.trans (hd' 12 (by decide)).2
    have ef : a.eval (.func 25) = .func (.func 25) #[] #[] := rfl
    refine Sf.head_call (f := 25) (args := #[.pointer (some ⟨bs, 0, none⟩)]) ?_ ((len_any bs M w1 (HSM.out.below hb) HMZ.out).mono fun e w' h => ⟨.int .u64 1000000, h.1.trans (by rw [HMN.out]; rfl), by rw [h.2]; exact Sf.Soft.refl _ _, rfl⟩)
    generalize a.eval = ρ at *
    clear hs' hd'
    go_simp
  · intro vals a w1 hb hs' hd'
    refine want (gd_some rfl (hd' 11 (by decide)).2) ?_
    have e38 : a.eval (.tmp 38) = Value.int .u64 1000000 := (hd' 13 (by decide)).1.trans (hd' 13 (by decide)).2
    have ec : a.eval (.const (.int .u64 1000000)) = .int .u64 1000000 := rfl
    refine Sf.head_val (.bool true) ?_ (Sf.Soft.refl _ _) rfl
    generalize a.eval = ρ at *
    clear hs' hd'
    go_simp
  · intro vals a w1 hb hs' hd'
    refine want rfl ?_
    have e36 : a.eval (.tmp 36) = Value.bool true := (hd' 11 (by decide)).1.trans (hd' 11 (by decide)).2
    have e39 : a.eval (.tmp 39) = Value.bool true := (hd' 14 (by decide)).1.trans (hd' 14 (by decide)).2
    have ec : a.eval (.const (.bool false)) = .bool false := rfl
    refine Sf.head_val (.bool true) ?_ (Sf.Soft.refl _ _) rfl
    generalize a.eval = ρ at *
    clear hs' hd'
    go_simp
  · intro vals a w1 hb hs' hd'
    refine want rfl ?_
    have e40 : a.eval (.tmp 40) = Value.bool true := (hd' 15 (by decide)).1.trans (hd' 15 (by decide)).2
    refine Sf.head_val (.bool true) ?_ (Sf.Soft.refl _ _) rfl
    generalize a.eval = ρ at *
    clear hs' hd'
    go_simp
  · intro vals a w1 hb hs' hd'
    refine want (gd_some rfl (hd' 16 (by decide)).2) ?_
    refine Sf.head_val (.slice (some ⟨w1.heap.size, 0, none⟩) 5 5) (w' := w1.alloc (.cells (bytesA hello) 5)) ?_ (Sf.Soft.of hb.size ((Below.refl w1.heap.size w1).alloc (Nat.le_refl _) (.cells (bytesA hello) 5))) ⟨_, rfl, hb.size, bytesAt_row (l := hello) (heap_alloc_new w1 _) 5 (Nat.le_refl _) (by unfold maxLen; omega)⟩
    clear hs' hd'
    go_simp
    rfl
  · intro vals a w1 hb hs' hd'
    refine want (gd_some rfl (hd' 16 (by decide)).2) ?_
    have e42 : a.eval (.tmp 42) = vals 17 := (hd' 17 (by decide)).1
    have p42 : nm9 wf.heap.size bs D l M 17 (vals 17) w1 := (hd' 17 (by decide)).2
    obtain ⟨vb, hvs, hvb, hvh⟩ := p42
    obtain ⟨cs, t, fr, hcs⟩ := row_of_bytes (hvs ▸ hvh) (by decide)
    exact Sf.head_val _ (conv_run rfl (e42.trans hvs) (conv_mark w1 vb 0 5 5 cs t fr hcs)) (soft_freeze w1 _ vb _ hvb) ((hvs ▸ hvh).soft (soft_freeze w1 _ vb cs.size hvb))
  · intro vals a w1 hb hs' hd'
    refine want (gd_some rfl (hd' 16 (by decide)).2) ?_
    have e43 : a.eval (.tmp 43) = vals 18 := (hd' 18 (by decide)).1
    have p43 : nm9 wf.heap.size bs D l M 18 (vals 18) w1 := (hd' 18 (by decide)).2
    have ef : a.eval (.func 29) = .func (.func 29) #[] #[] := rfl
    generalize vals 18 = v1 at *
    refine Sf.head_call (f := 29) (args := #[v1]) ?_ ((twice_any v1 hello w1 p43 (by decide)).mono fun e w' h => ⟨_, h.1, Sf.Soft.of hb.size h.2, rfl⟩)
    generalize a.eval = ρ at *
    clear hs' hd'
    go_simp
  · intro vals a w1 hb hs' hd'
    refine want (gd_some rfl (hd' 16 (by decide)).2) ?_
    have e5 : a.eval (.tmp 5) = Value.pointer (some ⟨D, 0, none⟩) := (hs' 5 (by decide)).trans h5
    refine Sf.head_val (.slice (some ⟨D, 0, none⟩) 32 32) ?_ (Sf.Soft.refl _ _) rfl
    generalize a.eval = ρ at *
    clear hs' hd'
    go_simp
  · intro vals a w1 hb hs' hd'
    refine want (gd_some rfl (hd' 16 (by decide)).2) ?_
    have e45 : a.eval (.tmp 45) = Value.slice (some ⟨D, 0, none⟩) 32 32 := (hd' 20 (by decide)).1.trans (hd' 20 (by decide)).2
    have ef : a.eval (.func 27) = .func (.func 27) #[] #[] := rfl
    refine Sf.head_call (f := 27) (args := #[.slice (some ⟨D, 0, none⟩) 32 32]) ?_ ((of_any _ (Sha.hash hello) w1 (row32 (block_below' hb HD.out) (hash_length hello)) (by rw [hash_length]; omega)).mono fun e w' h => ⟨_, h.1, Sf.Soft.of hb.size h.2, rfl⟩)
    generalize a.eval = ρ at *
    clear hs' hd'
    go_simp
  · intro vals a w1 hb hs' hd'
    refine want (gd_some rfl (hd' 16 (by decide)).2) ?_
    have e44 : a.eval (.tmp 44) = Value.agg (bytesA (twice hello)) := (hd' 19 (by decide)).1.trans (hd' 19 (by decide)).2
    have e46 : a.eval (.tmp 46) = Value.agg (bytesA (twice hello)) := (hd' 21 (by decide)).1.trans (hd' 21 (by decide)).2
    have eqq := eql28 (twice hello) (twice hello) w1 (twice_length _) (twice_length _)
    refine Sf.head_val (.bool true) (eql_run rfl e44 e46 (fun W => eg28 _ _ _ _ W) (Eq.trans eqq (by rw [beq_self_eq_true]))) (Sf.Soft.refl _ _) rfl
  · intro vals a w1 hb hs' hd'
    refine want rfl ?_
    have e41 : a.eval (.tmp 41) = Value.bool true := (hd' 16 (by decide)).1.trans (hd' 16 (by decide)).2
    have e47 : a.eval (.tmp 47) = Value.bool true := (hd' 22 (by decide)).1.trans (hd' 22 (by decide)).2
    have ec : a.eval (.const (.bool false)) = .bool false := rfl
    refine Sf.head_val (.bool true) ?_ (Sf.Soft.refl _ _) rfl
    generalize a.eval = ρ at *
    clear hs' hd'
    go_simp
  · intro vals a w1 hb hs' hd'
    refine want rfl ?_
    have e48 : a.eval (.tmp 48) = Value.bool true := (hd' 23 (by decide)).1.trans (hd' 23 (by decide)).2
    refine Sf.head_val (.bool true) ?_ (Sf.Soft.refl _ _) rfl
    generalize a.eval = ρ at *
    clear hs' hd'
    go_simp
  · intro vals a w1 hb hs' hd'
    refine want (gd_some rfl (hd' 24 (by decide)).2) ?_
    have ef : a.eval (.func 28) = .func (.func 28) #[] #[] := rfl
    have ec : a.eval (.const (.slice none 0 0)) = .slice none 0 0 := rfl
    refine Sf.head_call (f := 28) (args := #[.slice none 0 0]) ?_ ((short_any (.slice none 0 0) [] w1 (.inl ⟨rfl, rfl⟩) (by decide)).mono fun e w' h => by obtain ⟨a, c, h1, h2, h3⟩ := h; exact ⟨_, h1, Sf.Soft.of hb.size h3, a, c, rfl⟩)
    generalize a.eval = ρ at *
    clear hs' hd'
    go_simp
  · intro vals a w1 hb hs' hd'
    refine want (gd_some rfl (hd' 24 (by decide)).2) ?_
    have e50 : a.eval (.tmp 50) = vals 25 := (hd' 25 (by decide)).1
    have p50 : nm9 wf.heap.size bs D l M 25 (vals 25) w1 := (hd' 25 (by decide)).2
    obtain ⟨va, vc, hvs⟩ := p50
    rw [hvs] at e50
    refine Sf.head_val (.int .i64 20) ?_ (Sf.Soft.refl _ _) rfl
    generalize a.eval = ρ at *
    clear hs' hd'
    go_simp
  · intro vals a w1 hb hs' hd'
    refine want (gd_some rfl (hd' 24 (by decide)).2) ?_
    have e51 : a.eval (.tmp 51) = Value.int .i64 20 := (hd' 26 (by decide)).1.trans (hd' 26 (by decide)).2
    have ec : a.eval (.const (.int .i64 20)) = .int .i64 20 := rfl
    refine Sf.head_val (.bool true) ?_ (Sf.Soft.refl _ _) rfl
    generalize a.eval = ρ at *
    clear hs' hd'
    go_simp
  · intro vals a w1 hb hs' hd'
    refine want rfl ?_
    have e49 : a.eval (.tmp 49) = Value.bool true := (hd' 24 (by decide)).1.trans (hd' 24 (by decide)).2
    have e52 : a.eval (.tmp 52) = Value.bool true := (hd' 27 (by decide)).1.trans (hd' 27 (by decide)).2
    have ec : a.eval (.const (.bool false)) = .bool false := rfl
    refine Sf.head_val (.bool true) ?_ (Sf.Soft.refl _ _) rfl
    generalize a.eval = ρ at *
    clear hs' hd'
    go_simp
  · intro vals a w1 hb hs' hd'
    refine want rfl ?_
    have e53 : a.eval (.tmp 53) = Value.bool true := (hd' 28 (by decide)).1.trans (hd' 28 (by decide)).2
    refine Sf.head_val (.bool true) ?_ (Sf.Soft.refl _ _) rfl
    generalize a.eval = ρ at *
    clear hs' hd'
    go_simp
  · intro vals wg hbg hall
    exact hQ vals wg (hall 29 (by omega)) hbg
end Go.Proofs.Ytdecbimklomdjaa
