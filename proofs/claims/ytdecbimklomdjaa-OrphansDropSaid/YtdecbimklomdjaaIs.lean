/- purser/sign: Is. -/
import Derived.Test.YtdecbimklomdjaaSign2
import Derived.Laws.Cover3
import Derived.Test.YtdecbimklomdjaaMonoG
namespace Go.Proofs.Ytdecbimklomdjaa
open Go Go.RowKit Go.Shelf
/-- What sign.Is answers. -/
def isB (k sg d : List UInt8) : Bool := k.length == 32 && sg.length == 64 && (Sha.hash (sg.take 32) == k && Sha.hash (sg.take 32 ++ d) == sg.drop 32)
theorem BytesAt.parts {w : World} {v : Value} {l : List UInt8} (h : BytesAt w v l) : ∃ a c, v = .slice a l.length c := by
  rcases h with ⟨h, h2⟩ | ⟨b, o, c, h, _⟩
  · subst h2; exact ⟨_, _, h⟩
  · exact ⟨_, _, h⟩
theorem BytesAt.full {w : World} {v : Value} {l : List UInt8} (h : BytesAt w v l) (hl : 0 < l.length) : ∃ b o c, v = .slice (some ⟨b, o, none⟩) l.length c ∧ l.length ≤ c ∧ c ≤ maxLen ∧ b < w.heap.size ∧ w.rangeAt b o (l.map V8) := by
  rcases h with ⟨h, h2⟩ | h
  · subst h2; simp at hl
  · exact h
theorem guard28 : Try.prog.eqGuardType Try.prog.depth 28 = false := by kernel_rfl
theorem eg28 (x y : Operand) (a b : Array Value) (W : World) : (eqGuard .eql 28 x y (.agg a) (.agg b)).run Try.prog W = .ok () W := by
  simp [eqGuard, go_sem]
theorem want {c : Prop} [Decidable c] {A B : Prop} (hc : c) (h : A) : if c then A else B := by rw [if_pos hc]; exact h
theorem unwant {c : Prop} [Decidable c] {A B : Prop} (hc : ¬ c) (h : B) : if c then A else B := by rw [if_neg hc]; exact h
theorem gd_some {o : Oper} {vals : Nat → Value} {g : Nat} {b : Bool} (hg : o.guard = some (g, b)) (hv : vals g = .bool b) : G.gd o vals = true := by unfold G.gd; rw [hg]; simp [hv]
theorem gd_other {o : Oper} {vals : Nat → Value} {g : Nat} {b x : Bool} (hg : o.guard = some (g, b)) (hv : vals g = .bool x) (hne : x ≠ b) : ¬ G.gd o vals = true := by unfold G.gd; rw [hg]; simp [hv, hne]
/-- What the operations of Is's region 4 yield. -/
def isV (sec k d : List UInt8) (bk ok ck bs os cs : Nat) (q r : Bool) (tl : List UInt8) : Nat → Value
  | 0 => .agg (bytesA sec)
  | 1 => .agg (bytesA (Sha.hash sec))
  | 2 => .slice (some ⟨bk, ok, none⟩) 32 ck
  | 3 => .pointer (some ⟨bk, ok, none⟩)
  | 4 => .agg (bytesA k)
  | 5 => .bool q
  | 6 => .bool q
  | 7 => if q then .agg (bytesA sec) else undef
  | 8 => if q then .agg (bytesA d) else undef
  | 9 => if q then .agg (bytesA (Sha.hash (sec ++ d))) else undef
  | 10 => if q then .slice (some ⟨bs, os, none⟩) 64 cs else undef
  | 11 => if q then .slice (some ⟨bs, os + 32, none⟩) 32 (cs - 32) else undef
  | 12 => if q then .pointer (some ⟨bs, os + 32, none⟩) else undef
  | 13 => if q then .agg (bytesA tl) else undef
  | 14 => if q then .bool r else undef
  | _ => .bool (q && r)
theorem sizeOf5 (w : World) : (sizeOf 5).run Try.prog w = .ok 1 w := by
  obtain ⟨i0, hi, _, hz1, _⟩ := info_parts info5
  simp [sizeOf, typeInfo, hi, hz1]
theorem eql28 (x y : List UInt8) (W : World) (hx : x.length = 32) (hy : y.length = 32) : (binOp .eql 28 (.agg (x.map V8).toArray) (.agg (y.map V8).toArray)).run Try.prog W = .ok (.bool (x == y)) W :=
  run_eql_bytes W 28 5 32 Try.underlying28 Try.underlying5 (fun w => sizeOf5 w) x y hx hy
theorem keep_below {W a b : World} {p : Prop} (h : Below W.heap.size W a ∧ p) (hb : Below a.heap.size a b) : Below W.heap.size W b := h.1.trans (hb.mono h.1.size)
set_option maxRecDepth 100000 in
set_option maxHeartbeats 1000000 in
theorem is_any (v1 v2 : Value) (k sg d : List UInt8) (hd : d.length = 32) (w : World) (h1 : BytesAt w v1 k) (h2 : BytesAt w v2 sg) :
    Calls Try.prog 44 #[v1, v2, .agg (bytesA d)] w fun e w' => e = .returned (.bool (isB k sg d)) ∧ Below w.heap.size w w' := by
  by_cases hl : k.length = 32 ∧ sg.length = 64
  · obtain ⟨hk, hs⟩ := hl
    obtain ⟨bk, ok, ck, rfl, hkc, hkm, hklt, hkr⟩ := h1.full (by omega)
    obtain ⟨bs, os, cs, rfl, hsc, hsm, hslt, hsr⟩ := h2.full (by omega)
    rw [hk, hs]
    unfold maxLen at hsm
    have hrs : w.rangeAt bs os ((sg.take 32).map V8) := by rw [List.map_take]; exact rangeAt_take hsr 32
    have hrt : w.rangeAt bs (os + 32) ((sg.drop 32).map V8) := by rw [List.map_drop]; exact rangeAt_drop hsr 32
    have hl32 : (sg.take 32).length = 32 := by rw [List.length_take]; omega
    have ht32 : (sg.drop 32).length = 32 := by rw [List.length_drop]; omega
    obtain ⟨sec, hsec⟩ : ∃ sec, sec = sg.take 32 := ⟨_, rfl⟩
    obtain ⟨tl, htl⟩ : ∃ tl, tl = sg.drop 32 := ⟨_, rfl⟩
    rw [← hsec] at hrs hl32
    rw [← htl] at hrt ht32
    have HSEC := Lib.hid hsec
    have HTL := Lib.hid htl
    clear hsr hsec htl
    obtain ⟨W1, hW1⟩ : ∃ W1, w.alloc (.cells (bytesA d) 28) = W1 := ⟨_, rfl⟩
    have hb1 : Below w.heap.size w W1 := by rw [← hW1]; exact (Below.refl _ _).alloc (Nat.le_refl _) _
    have hn1 : W1.heap[w.heap.size]? = some (.cells (bytesA d) 28 (0, 0)) := by rw [← hW1]; exact heap_alloc_new _ _
    have HZ1 : Hid (W1.heap.size = w.heap.size + 1) := Lib.hid (by rw [← hW1]; simp)
    have hr1 : W1.rangeAt bs os (sec.map V8) := fun j u hu => (hb1.cell (p := ⟨bs, os + j, none⟩) hslt).trans ((hrs j u hu))
    have HR1 := Lib.hid hr1
    have hi32 : (Try.prog.info? 28).map (·.size) = some (sec.map V8).length := by rw [List.length_map, hl32]; kernel_rfl
    have HI32 := Lib.hid hi32
    obtain ⟨W2, hW2⟩ : ∃ W2, W1.alloc (.cells (bytesA sec) 28) = W2 := ⟨_, rfl⟩
    have HL32 := Lib.hid hl32
    clear hi32 hr1 hl32
    have haa : ∀ (a : Option Addr) (c : Nat) (w : World), (Instr.arrayAt 28 (.slice a 32 c)).run Try.prog w = .ok (.pointer a) w := fun a c w => run_arrayAt w 28 5 32 a 32 c Try.underlying28 (Nat.le_refl _)
    go_enter Try.func44, Try.ntmps44
    go_wp2_with (first | ((try rw [hW1]); (with_reducible refine wpList_load_mid ?_ 28 (.tmp 18) ?_ bs os ?_ _ _ HR1.out Try.underlying28 ?_ HI32.out ?_); (next => rfl); (next => rfl); (next => rfl); (next => rfl)) | ((with_reducible refine wpList_store_row ?_ 28 (.tmp 7) (.tmp 19) ?_ W1.heap.size (bytesA sec) ?_ ?_ 28 _ (heap_alloc_new W1 _) ?_ ?_ ?_ ?_);  (next => rfl); (next => rfl); (next => rfl); (next => rfl); (next => rw [size_bytesA, HL32.out]; kernel_rfl); (next => rw [size_bytesA, HL32.out]; rfl); (next => exact all_bytes _); rw [World.setRow_alloc_new, hW2]))
    have hz1 := HZ1.out
    have hb2 : Below W1.heap.size W1 W2 := by rw [← hW2]; exact (Below.refl _ _).alloc (Nat.le_refl _) _
    have hn2 : W2.heap[W1.heap.size]? = some (.cells (bytesA sec) 28 (0, 0)) := by rw [← hW2]; exact heap_alloc_new _ _
    have hz2 : W2.heap.size = W1.heap.size + 1 := by rw [← hW2]; simp
    have hS : ∀ W', Below W2.heap.size W2 W' → Below W2.heap.size W2 W' ∧ W'.rangeAt bk ok (k.map V8) ∧ W'.rangeAt bs (os + 32) (tl.map V8) ∧ W'.rangeAt W1.heap.size 0 (sec.map V8) ∧ W'.rangeAt w.heap.size 0 (d.map V8) := by
      intro W' hb
      have hw : ∀ i, i < w.heap.size → W'.heap[i]? = w.heap[i]? := fun i hi => (hb.block i (by omega)).trans ((hb2.block i (by omega)).trans (hb1.block i hi))
      refine ⟨hb, fun j u hu => (World.cell?_of_block (hw bk hklt)).trans (hkr j u hu), fun j u hu => (World.cell?_of_block (hw bs hslt)).trans (hrt j u hu), row_range ((hb.block _ (by omega)).trans hn2), row_range ((hb.block _ (by omega)).trans ((hb2.block _ (by omega)).trans hn1))⟩
    have hmix : Try.prog.follows Departure.mixedOrders = true := by kernel_rfl
    have hu28 := Try.underlying28
    have hk28 : (Try.prog.info? 28).map (·.size) = some (k.map V8).length := by rw [List.length_map, hk]; kernel_rfl
    have ht28 : (Try.prog.info? 28).map (·.size) = some (tl.map V8).length := by rw [List.length_map, ht32]; kernel_rfl
    have hs28 : (Try.prog.info? 28).map (·.size) = some (sec.map V8).length := by rw [List.length_map, HL32.out]; kernel_rfl
    have hd28 : (Try.prog.info? 28).map (·.size) = some (d.map V8).length := by rw [List.length_map, hd]; kernel_rfl
    have hBW : Below w.heap.size w W2 := hb1.trans (hb2.mono (by omega))
    have hsW : w.heap.size ≤ W2.heap.size := hBW.size
    have HBW := Lib.hid hBW
    clear hkr hrs hrt hb1 hb2 hn1 hn2 hW1 hW2 hz1 hz2 hBW
    have e1 : ∀ W : World, (binOp .eql 28 (.agg (bytesA (Sha.hash sec))) (.agg (bytesA k))).run Try.prog W = .ok (.bool (Sha.hash sec == k)) W := fun W => eql28 _ _ _ (hash_length _) hk
    have e2 : ∀ W : World, (binOp .eql 28 (.agg (bytesA (Sha.hash (sec ++ d)))) (.agg (bytesA tl))).run Try.prog W = .ok (.bool (Sha.hash (sec ++ d) == tl)) W := fun W => eql28 _ _ _ (hash_length _) ht32
    have hB : isB k sg d = (Sha.hash sec == k && Sha.hash (sec ++ d) == tl) := by unfold isB; rw [hk, hs, HSEC.out, HTL.out]; rfl
    by_cases hq : Sha.hash sec = k
    · have hq' : (Sha.hash sec == k) = true := beq_iff_eq.2 hq
      rw [hq'] at e1 hB
      have HBB := Lib.hid hB
      clear hB hq hq'
      refine G.wp_region_mono 17 (by kernel_rfl) (by kernel_rfl) (fun i v _ => v = isV sec k d bk ok ck bs os cs true (Sha.hash (sec ++ d) == tl) tl i) (fun _ _ _ _ h _ => h) ⟨?_, ?_, ?_, ?_, ?_, ?_, ?_, ?_, ?_, ?_, ?_, ?_, ?_, ?_, ?_, ?_, ?_, trivial⟩ ?_
      · intro vals a w1 hb hs' hd'
        refine want rfl ?_
        have e7 : a.eval (.tmp 7) = Value.pointer (some ⟨W1.heap.size, 0, none⟩) := hs' 7 (by decide)
        have hl := run_loadVar_mid (P := Try.prog) w1 W1.heap.size 0 28 (sec.map V8) _ (hS w1 hb).2.2.2.1 Try.underlying28 rfl hs28
        refine head_val (.agg (bytesA sec)) ?_ (Below.refl _ _) rfl
        generalize a.eval = ρ at *
        clear hs' hd'
        simp only [execOp, e7, Instr.loadAt, Instr.sureAddr, Sem.run_bind, Sem.run_pure, Result.andThen_ok, hl]
        rfl
      · intro vals a w1 hb hs' hd'
        refine want rfl ?_
        have e20 : a.eval (.tmp 20) = _ := (hd' 0 (by decide)).1.trans (hd' 0 (by decide)).2
        have ef : a.eval (.func 33) = .func (.func 33) #[] #[] := rfl
        refine head_call (f := 33) (args := #[.agg (bytesA sec)]) ?_ ((public_any sec HL32.out w1).mono fun e w' h => ⟨_, h.1, h.2, rfl⟩)
        generalize a.eval = ρ at *
        clear hs' hd'
        simp only [isV] at e20
        go_simp
      · intro vals a w1 hb hs' hd'
        refine want rfl ?_
        have e0 : a.eval (.tmp 0) = Value.slice (some ⟨bk, ok, none⟩) 32 ck := hs' 0 (by decide)
        refine head_val (.slice (some ⟨bk, ok, none⟩) 32 ck) ?_ (Below.refl _ _) rfl
        generalize a.eval = ρ at *
        clear hs' hd'
        go_simp
      · intro vals a w1 hb hs' hd'
        refine want rfl ?_
        have e22 : a.eval (.tmp 22) = _ := (hd' 2 (by decide)).1.trans (hd' 2 (by decide)).2
        simp only [isV] at e22
        refine head_val (.pointer (some ⟨bk, ok, none⟩)) ?_ (Below.refl _ _) rfl
        generalize a.eval = ρ at *
        clear hs' hd'
        go_simp
      · intro vals a w1 hb hs' hd'
        refine want rfl ?_
        have e23 : a.eval (.tmp 23) = _ := (hd' 3 (by decide)).1.trans (hd' 3 (by decide)).2
        simp only [isV] at e23
        have hl := run_loadVar_mid (P := Try.prog) w1 bk ok 28 (k.map V8) _ (hS w1 hb).2.1 Try.underlying28 rfl hk28
        refine head_val (.agg (bytesA k)) ?_ (Below.refl _ _) rfl
        generalize a.eval = ρ at *
        clear hs' hd'
        simp only [execOp, e23, Instr.loadAt, Instr.sureAddr, Sem.run_bind, Sem.run_pure, Result.andThen_ok, hl]
        rfl
      · intro vals a w1 hb hs' hd'
        refine want rfl ?_
        have e21 : a.eval (.tmp 21) = _ := (hd' 1 (by decide)).1.trans (hd' 1 (by decide)).2
        have e24 : a.eval (.tmp 24) = _ := (hd' 4 (by decide)).1.trans (hd' 4 (by decide)).2
        simp only [isV] at e21 e24
        have e1' := e1 w1
        refine head_val (.bool true) ?_ (Below.refl _ _) rfl
        generalize a.eval = ρ at *
        clear hs' hd'
        simp only [execOp, e21, e24, Sem.run_bind, eg28, e1', Result.andThen_ok]
        rfl
      · intro vals a w1 hb hs' hd'
        refine want rfl ?_
        have e25 : a.eval (.tmp 25) = _ := (hd' 5 (by decide)).1.trans (hd' 5 (by decide)).2
        simp only [isV] at e25
        refine head_val (.bool true) ?_ (Below.refl _ _) rfl
        generalize a.eval = ρ at *
        clear hs' hd'
        go_simp
      · intro vals a w1 hb hs' hd'
        refine want (gd_some rfl (hd' 6 (by decide)).2) ?_
        have e7 : a.eval (.tmp 7) = Value.pointer (some ⟨W1.heap.size, 0, none⟩) := hs' 7 (by decide)
        have hl := run_loadVar_mid (P := Try.prog) w1 W1.heap.size 0 28 (sec.map V8) _ (hS w1 hb).2.2.2.1 Try.underlying28 rfl hs28
        refine head_val (.agg (bytesA sec)) ?_ (Below.refl _ _) rfl
        generalize a.eval = ρ at *
        clear hs' hd'
        simp only [execOp, e7, Instr.loadAt, Instr.sureAddr, Sem.run_bind, Sem.run_pure, Result.andThen_ok, hl]
        rfl
      · intro vals a w1 hb hs' hd'
        refine want (gd_some rfl (hd' 6 (by decide)).2) ?_
        have e5 : a.eval (.tmp 5) = Value.pointer (some ⟨w.heap.size, 0, none⟩) := hs' 5 (by decide)
        have hl := run_loadVar_mid (P := Try.prog) w1 w.heap.size 0 28 (d.map V8) _ (hS w1 hb).2.2.2.2 Try.underlying28 rfl hd28
        refine head_val (.agg (bytesA d)) ?_ (Below.refl _ _) rfl
        generalize a.eval = ρ at *
        clear hs' hd'
        simp only [execOp, e5, Instr.loadAt, Instr.sureAddr, Sem.run_bind, Sem.run_pure, Result.andThen_ok, hl]
        rfl
      · intro vals a w1 hb hs' hd'
        refine want (gd_some rfl (hd' 6 (by decide)).2) ?_
        have e27 : a.eval (.tmp 27) = _ := (hd' 7 (by decide)).1.trans (hd' 7 (by decide)).2
        have e28 : a.eval (.tmp 28) = _ := (hd' 8 (by decide)).1.trans (hd' 8 (by decide)).2
        simp only [isV, if_true] at e27 e28
        have ef : a.eval (.func 81) = .func (.func 81) #[] #[] := rfl
        refine head_call (f := 81) (args := #[.agg (bytesA sec), .agg (bytesA d)]) ?_ ((bound_any sec d HL32.out hd w1).mono fun e w' h => ⟨_, h.1, h.2, rfl⟩)
        generalize a.eval = ρ at *
        clear hs' hd'
        go_simp
      · intro vals a w1 hb hs' hd'
        refine want (gd_some rfl (hd' 6 (by decide)).2) ?_
        have e1 : a.eval (.tmp 1) = Value.slice (some ⟨bs, os, none⟩) 64 cs := hs' 1 (by decide)
        refine head_val (.slice (some ⟨bs, os, none⟩) 64 cs) ?_ (Below.refl _ _) rfl
        generalize a.eval = ρ at *
        clear hs' hd'
        go_simp
      · intro vals a w1 hb hs' hd'
        refine want (gd_some rfl (hd' 6 (by decide)).2) ?_
        have e30 : a.eval (.tmp 30) = _ := (hd' 10 (by decide)).1.trans (hd' 10 (by decide)).2
        have hc32 : ¬ cs = 32 := by omega
        simp only [isV, if_true] at e30
        have ec : a.eval (.const (.int .i64 32)) = .int .i64 32 := rfl
        refine head_val (.slice (some ⟨bs, os + 32, none⟩) 32 (cs - 32)) ?_ (Below.refl _ _) rfl
        generalize a.eval = ρ at *
        clear hs' hd'
        go_simp
      · intro vals a w1 hb hs' hd'
        refine want (gd_some rfl (hd' 6 (by decide)).2) ?_
        have e31 : a.eval (.tmp 31) = _ := (hd' 11 (by decide)).1.trans (hd' 11 (by decide)).2
        simp only [isV, if_true] at e31
        refine head_val (.pointer (some ⟨bs, os + 32, none⟩)) ?_ (Below.refl _ _) rfl
        generalize a.eval = ρ at *
        clear hs' hd'
        go_simp
      · intro vals a w1 hb hs' hd'
        refine want (gd_some rfl (hd' 6 (by decide)).2) ?_
        have e32 : a.eval (.tmp 32) = _ := (hd' 12 (by decide)).1.trans (hd' 12 (by decide)).2
        simp only [isV, if_true] at e32
        have hl := run_loadVar_mid (P := Try.prog) w1 bs (os + 32) 28 (tl.map V8) _ (hS w1 hb).2.2.1 Try.underlying28 rfl ht28
        refine head_val (.agg (bytesA tl)) ?_ (Below.refl _ _) rfl
        generalize a.eval = ρ at *
        clear hs' hd'
        simp only [execOp, e32, Instr.loadAt, Instr.sureAddr, Sem.run_bind, Sem.run_pure, Result.andThen_ok, hl]
        rfl
      · intro vals a w1 hb hs' hd'
        refine want (gd_some rfl (hd' 6 (by decide)).2) ?_
        have e29 : a.eval (.tmp 29) = _ := (hd' 9 (by decide)).1.trans (hd' 9 (by decide)).2
        have e33 : a.eval (.tmp 33) = _ := (hd' 13 (by decide)).1.trans (hd' 13 (by decide)).2
        simp only [isV, if_true] at e29 e33
        have e2' := e2 w1
        refine head_val (.bool (Sha.hash (sec ++ d) == tl)) ?_ (Below.refl _ _) rfl
        generalize a.eval = ρ at *
        clear hs' hd'
        simp only [execOp, e29, e33, Sem.run_bind, eg28, e2', Result.andThen_ok]
        rfl
      · intro vals a w1 hb hs' hd'
        refine want rfl ?_
        have e26 : a.eval (.tmp 26) = _ := (hd' 6 (by decide)).1.trans (hd' 6 (by decide)).2
        have e34 : a.eval (.tmp 34) = _ := (hd' 14 (by decide)).1.trans (hd' 14 (by decide)).2
        have ec : a.eval (.const (.bool false)) = .bool false := rfl
        simp only [isV, if_true] at e26 e34
        refine head_val (.bool (Sha.hash (sec ++ d) == tl)) ?_ (Below.refl _ _) rfl
        generalize a.eval = ρ at *
        clear hs' hd'
        go_simp
      · intro vals a w1 hb hs' hd'
        refine want rfl ?_
        have e35 : a.eval (.tmp 35) = _ := (hd' 15 (by decide)).1.trans (hd' 15 (by decide)).2
        simp only [isV, Bool.true_and] at e35
        refine head_val (.bool (Sha.hash (sec ++ d) == tl)) ?_ (Below.refl _ _) rfl
        generalize a.eval = ρ at *
        clear hs' hd'
        go_simp
      · intro vals w' hb hall
        have h16 : vals 16 = .bool (Sha.hash (sec ++ d) == tl) := hall 16 (by omega)
        have HB4 := Lib.hid (HBW.out.trans (hb.mono hsW))
        clear hb hall
        simp only [List.take_succ_cons, List.take_zero, List.drop_succ_cons, List.drop_zero, G.putHeads, List.zipIdx_cons, List.zipIdx_nil, List.foldl_cons, List.foldl_nil, Act.put, List.setIfInBounds_toArray, List.set_cons_zero, List.set_cons_succ, Nat.zero_add, Nat.reduceAdd, h16]
        refine wpList_nil ?_
        go_wp2_with fail
        go_ret
        exact ⟨by rw [HBB.out]; rfl, HB4.out⟩
    · have hq' : (Sha.hash sec == k) = false := beq_eq_false_iff_ne.2 hq
      rw [hq'] at e1 hB
      have HBB := Lib.hid hB
      clear hB hq hq'
      refine G.wp_region_mono 17 (by kernel_rfl) (by kernel_rfl) (fun i v _ => v = isV sec k d bk ok ck bs os cs false (Sha.hash (sec ++ d) == tl) tl i) (fun _ _ _ _ h _ => h) ⟨?_, ?_, ?_, ?_, ?_, ?_, ?_, ?_, ?_, ?_, ?_, ?_, ?_, ?_, ?_, ?_, ?_, trivial⟩ ?_
      · intro vals a w1 hb hs' hd'
        refine want rfl ?_
        have e7 : a.eval (.tmp 7) = Value.pointer (some ⟨W1.heap.size, 0, none⟩) := hs' 7 (by decide)
        have hl := run_loadVar_mid (P := Try.prog) w1 W1.heap.size 0 28 (sec.map V8) _ (hS w1 hb).2.2.2.1 Try.underlying28 rfl hs28
        refine head_val (.agg (bytesA sec)) ?_ (Below.refl _ _) rfl
        generalize a.eval = ρ at *
        clear hs' hd'
        simp only [execOp, e7, Instr.loadAt, Instr.sureAddr, Sem.run_bind, Sem.run_pure, Result.andThen_ok, hl]
        rfl
      · intro vals a w1 hb hs' hd'
        refine want rfl ?_
        have e20 : a.eval (.tmp 20) = _ := (hd' 0 (by decide)).1.trans (hd' 0 (by decide)).2
        have ef : a.eval (.func 33) = .func (.func 33) #[] #[] := rfl
        refine head_call (f := 33) (args := #[.agg (bytesA sec)]) ?_ ((public_any sec HL32.out w1).mono fun e w' h => ⟨_, h.1, h.2, rfl⟩)
        generalize a.eval = ρ at *
        clear hs' hd'
        simp only [isV] at e20
        go_simp
      · intro vals a w1 hb hs' hd'
        refine want rfl ?_
        have e0 : a.eval (.tmp 0) = Value.slice (some ⟨bk, ok, none⟩) 32 ck := hs' 0 (by decide)
        refine head_val (.slice (some ⟨bk, ok, none⟩) 32 ck) ?_ (Below.refl _ _) rfl
        generalize a.eval = ρ at *
        clear hs' hd'
        go_simp
      · intro vals a w1 hb hs' hd'
        refine want rfl ?_
        have e22 : a.eval (.tmp 22) = _ := (hd' 2 (by decide)).1.trans (hd' 2 (by decide)).2
        simp only [isV] at e22
        refine head_val (.pointer (some ⟨bk, ok, none⟩)) ?_ (Below.refl _ _) rfl
        generalize a.eval = ρ at *
        clear hs' hd'
        go_simp
      · intro vals a w1 hb hs' hd'
        refine want rfl ?_
        have e23 : a.eval (.tmp 23) = _ := (hd' 3 (by decide)).1.trans (hd' 3 (by decide)).2
        simp only [isV] at e23
        have hl := run_loadVar_mid (P := Try.prog) w1 bk ok 28 (k.map V8) _ (hS w1 hb).2.1 Try.underlying28 rfl hk28
        refine head_val (.agg (bytesA k)) ?_ (Below.refl _ _) rfl
        generalize a.eval = ρ at *
        clear hs' hd'
        simp only [execOp, e23, Instr.loadAt, Instr.sureAddr, Sem.run_bind, Sem.run_pure, Result.andThen_ok, hl]
        rfl
      · intro vals a w1 hb hs' hd'
        refine want rfl ?_
        have e21 : a.eval (.tmp 21) = _ := (hd' 1 (by decide)).1.trans (hd' 1 (by decide)).2
        have e24 : a.eval (.tmp 24) = _ := (hd' 4 (by decide)).1.trans (hd' 4 (by decide)).2
        simp only [isV] at e21 e24
        have e1' := e1 w1
        refine head_val (.bool false) ?_ (Below.refl _ _) rfl
        generalize a.eval = ρ at *
        clear hs' hd'
        simp only [execOp, e21, e24, Sem.run_bind, eg28, e1', Result.andThen_ok]
        rfl
      · intro vals a w1 hb hs' hd'
        refine want rfl ?_
        have e25 : a.eval (.tmp 25) = _ := (hd' 5 (by decide)).1.trans (hd' 5 (by decide)).2
        simp only [isV] at e25
        refine head_val (.bool false) ?_ (Below.refl _ _) rfl
        generalize a.eval = ρ at *
        clear hs' hd'
        go_simp
      · intro vals a w1 hb hs' hd'
        exact unwant (gd_other rfl (hd' 6 (by decide)).2 (by decide)) rfl
      · intro vals a w1 hb hs' hd'
        exact unwant (gd_other rfl (hd' 6 (by decide)).2 (by decide)) rfl
      · intro vals a w1 hb hs' hd'
        exact unwant (gd_other rfl (hd' 6 (by decide)).2 (by decide)) rfl
      · intro vals a w1 hb hs' hd'
        exact unwant (gd_other rfl (hd' 6 (by decide)).2 (by decide)) rfl
      · intro vals a w1 hb hs' hd'
        exact unwant (gd_other rfl (hd' 6 (by decide)).2 (by decide)) rfl
      · intro vals a w1 hb hs' hd'
        exact unwant (gd_other rfl (hd' 6 (by decide)).2 (by decide)) rfl
      · intro vals a w1 hb hs' hd'
        exact unwant (gd_other rfl (hd' 6 (by decide)).2 (by decide)) rfl
      · intro vals a w1 hb hs' hd'
        exact unwant (gd_other rfl (hd' 6 (by decide)).2 (by decide)) rfl
      · intro vals a w1 hb hs' hd'
        refine want rfl ?_
        have e26 : a.eval (.tmp 26) = _ := (hd' 6 (by decide)).1.trans (hd' 6 (by decide)).2
        have e34 : a.eval (.tmp 34) = _ := (hd' 14 (by decide)).1.trans (hd' 14 (by decide)).2
        have ec : a.eval (.const (.bool false)) = .bool false := rfl
        simp only [isV, Bool.false_eq_true, if_false] at e26 e34
        refine head_val (.bool false) ?_ (Below.refl _ _) rfl
        generalize a.eval = ρ at *
        clear hs' hd'
        go_simp
      · intro vals a w1 hb hs' hd'
        refine want rfl ?_
        have e35 : a.eval (.tmp 35) = _ := (hd' 15 (by decide)).1.trans (hd' 15 (by decide)).2
        simp only [isV, Bool.false_and] at e35
        refine head_val (.bool false) ?_ (Below.refl _ _) rfl
        generalize a.eval = ρ at *
        clear hs' hd'
        go_simp
      · intro vals w' hb hall
        have h16 : vals 16 = .bool false := hall 16 (by omega)
        have HB4 := Lib.hid (HBW.out.trans (hb.mono hsW))
        clear hb hall
        simp only [List.take_succ_cons, List.take_zero, List.drop_succ_cons, List.drop_zero, G.putHeads, List.zipIdx_cons, List.zipIdx_nil, List.foldl_cons, List.foldl_nil, Act.put, List.setIfInBounds_toArray, List.set_cons_zero, List.set_cons_succ, Nat.zero_add, Nat.reduceAdd, h16]
        refine wpList_nil ?_
        go_wp2_with fail
        go_ret
        exact ⟨by rw [HBB.out]; rfl, HB4.out⟩
  · have hB : isB k sg d = false := by unfold isB; rw [Bool.and_eq_false_iff]; left; rw [Bool.and_eq_false_iff, beq_eq_false_iff_ne, beq_eq_false_iff_ne]; omega
    rw [hB]
    obtain ⟨a1, c1, rfl⟩ := h1.parts
    obtain ⟨a2, c2, rfl⟩ := h2.parts
    clear h1 h2
    go_enter Try.func44, Try.ntmps44
    by_cases hk : k.length = 32
    · have hs : ¬ ((sg.length : Int) = 64) := by omega
      rw [hk]
      go_wp2
      go_ret
      exact ⟨rfl, (Below.refl _ _).alloc (Nat.le_refl _) _⟩
    · have hk' : ¬ ((k.length : Int) = 32) := by omega
      go_wp2
      go_ret
      exact ⟨rfl, (Below.refl _ _).alloc (Nat.le_refl _) _⟩
end Go.Proofs.Ytdecbimklomdjaa
