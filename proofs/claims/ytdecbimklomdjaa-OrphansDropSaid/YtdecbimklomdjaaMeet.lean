/- The sign laws' question: have two unlike messages one hash? -/
import Derived.Test.YtdecbimklomdjaaAlive
import Derived.Laws.IdiomStrings
import Derived.Lib.BufferRead
import Derived.Test.YtdecbimklomdjaaMonoG
namespace Go.Proofs.Ytdecbimklomdjaa
open Go Go.RowKit Go.Shelf
theorem conv_at {w : World} {v : Value} {l : List UInt8} (h : BytesAt w v l) : (convert 25 9 v).run Try.prog w = .ok (.string ⟨l.toArray⟩) w := by
  rcases h with ⟨rfl, rfl⟩ | ⟨b, o, c, rfl, _, _, _, hr⟩
  · exact Lib.run_convert_nil_bytes w 25 9 5 0 Try.underlying25 Try.underlying5 Try.underlying9
  · exact run_convert_bytes_back w 25 9 5 ⟨b, o, none⟩ c l Try.underlying25 Try.underlying5 Try.underlying9 (fun j hj => cells_at hr j _ (by rw [List.getElem?_map, List.getElem?_eq_getElem hj]; rfl))
theorem neq9 (x y : List UInt8) (W : World) : (binOp .neq 9 (.string ⟨x.toArray⟩) (.string ⟨y.toArray⟩)).run Try.prog W = .ok (.bool (x != y)) W := by
  simp [binOp, go_sem, Op.stringOp, bne]
theorem eg9 (o : BinOp) (x y : Operand) (a b : ByteArray) (W : World) : (eqGuard o 9 x y (.string a) (.string b)).run Try.prog W = .ok () W := by
  simp [eqGuard, go_sem]
theorem eql9 (x y : List UInt8) (W : World) : (binOp .eql 9 (.string ⟨x.toArray⟩) (.string ⟨y.toArray⟩)).run Try.prog W = .ok (.bool (x == y)) W := by
  simp [binOp, go_sem, Op.stringOp]

/-- What the operations of meet's region 7 yield. -/
def mV (b n : Nat) (i k : Int) (i' k' : Nat) (vi vk : Value) (li lk : List UInt8) (q r : Bool) : Nat → Value
  | 0 => .slice (some ⟨b, 0, none⟩) n n
  | 1 => .int .i64 i
  | 2 => .pointer (some ⟨b, i', none⟩)
  | 3 => vi
  | 4 => .string ⟨li.toArray⟩
  | 5 => .slice (some ⟨b, 0, none⟩) n n
  | 6 => .int .i64 k
  | 7 => .pointer (some ⟨b, k', none⟩)
  | 8 => vk
  | 9 => .string ⟨lk.toArray⟩
  | 10 => .bool q
  | 11 => .bool q
  | 12 => if q then .slice (some ⟨b, 0, none⟩) n n else undef
  | 13 => if q then .int .i64 i else undef
  | 14 => if q then .pointer (some ⟨b, i', none⟩) else undef
  | 15 => if q then vi else undef
  | 16 => if q then .agg (bytesA (Sha.hash li)) else undef
  | 17 => if q then .slice (some ⟨b, 0, none⟩) n n else undef
  | 18 => if q then .int .i64 k else undef
  | 19 => if q then .pointer (some ⟨b, k', none⟩) else undef
  | 20 => if q then vk else undef
  | 21 => if q then .agg (bytesA (Sha.hash lk)) else undef
  | 22 => if q then .bool r else undef
  | _ => .bool (q && r)
/-- Have these two one hash, unlike as they are? -/
def hitB (x y : List UInt8) : Bool := x != y && Sha.hash x == Sha.hash y
set_option maxRecDepth 100000 in
set_option maxHeartbeats 2000000 in
theorem meet_any (b n : Nat) (ls : List (List UInt8)) (w : World) (hn : ls.length = n) (hn64 : n < 64) (hbl0 : b < w.heap.size)
    (hv : ∀ i, i < n → ∃ v, w.cell? ⟨b, i, none⟩ = some v ∧ BytesAt w v (ls.getD i []) ∧ (ls.getD i []).length ≤ 549755813888) :
    Calls Try.prog 59 #[.slice (some ⟨b, 0, none⟩) n n] w fun e w' => ∃ r, e = .returned (.bool r) ∧ Below w.heap.size w w' ∧ (r = false → ∀ i k, k < i → i < n → hitB (ls.getD i []) (ls.getD k []) = false) := by
  have HV := Lib.hid hv
  clear hv
  go_enter Try.func59, Try.ntmps59
  go_wp2_with fail
  go_loopw [7] (fun i wr => ∃ i' : Nat, i' ≤ n ∧ i = .int .i64 i' ∧ Below w.heap.size w wr ∧ ∀ i k, k < i → i < i' → hitB (ls.getD i []) (ls.getD k []) = false) (fun i _ => n - (intOf i).toNat)
  case atStart => exact ⟨0, by omega, rfl, Below.refl _ _, fun i k _ h => by omega⟩
  case round =>
    obtain ⟨i, hi, rfl, hbe, hno⟩ := hrel
    have HNO := Lib.hid hno
    have HBE := Lib.hid hbe
    clear hno hbe
    by_cases hlt : i < n
    · obtain ⟨vi, hci0, hbi0, hli⟩ := HV.out i hlt
      obtain ⟨wo, rfl⟩ : ∃ wo : World, wo = wr := ⟨_, rfl⟩
      go_wp2_with fail
      go_loopw [4] (fun k wr => ∃ k' : Nat, k' ≤ i ∧ k = .int .i64 k' ∧ Below w.heap.size w wr ∧ ∀ j, j < k' → hitB (ls.getD i []) (ls.getD j []) = false) (fun k _ => n - (intOf k).toNat)
      case atStart => exact ⟨0, by omega, rfl, HBE.out, fun j h => by omega⟩
      case round =>
        obtain ⟨k, hk, rfl, hbk2, hnk⟩ := hrel
        have HNK := Lib.hid hnk
        have HBK := Lib.hid hbk2
        clear hnk hbk2
        by_cases hlk2 : k < i
        · obtain ⟨vk, hck0, hbk0, hlk⟩ := HV.out k (by omega)
          have hwr : w.heap.size ≤ wr.heap.size := HBK.out.size
          have hbl : b < wr.heap.size := by omega
          have hci : wr.cell? ⟨b, i, none⟩ = some vi := (HBK.out.cell (p := ⟨b, i, none⟩) hbl0).trans hci0
          have hck : wr.cell? ⟨b, k, none⟩ = some vk := (HBK.out.cell (p := ⟨b, k, none⟩) hbl0).trans hck0
          have hbi := hbi0.below HBK.out
          have hbk := hbk0.below HBK.out
          obtain ⟨li, hLI⟩ : ∃ l, l = ls.getD i [] := ⟨_, rfl⟩
          obtain ⟨lk, hLK⟩ : ∃ l, l = ls.getD k [] := ⟨_, rfl⟩
          rw [← hLI] at hbi hli
          rw [← hLK] at hbk hlk
          have HLI := Lib.hid hLI
          have HLK := Lib.hid hLK
          have hin : (i : Int) < (n : Int) := by omega
          have hkn : (k : Int) < (n : Int) := by omega
          have hkn' : k < n := by omega
          have e1 : ∀ W : World, (binOp .neq 9 (.string ⟨li.toArray⟩) (.string ⟨lk.toArray⟩)).run Try.prog W = .ok (.bool (li != lk)) W := fun W => neq9 li lk W
          have e2 : ∀ W : World, (binOp .eql 28 (.agg (bytesA (Sha.hash li))) (.agg (bytesA (Sha.hash lk)))).run Try.prog W = .ok (.bool (Sha.hash li == Sha.hash lk)) W := fun W => eql28 _ _ W (hash_length _) (hash_length _)
          clear hLI hLK hci0 hck0 hbi0 hbk0
          go_wp2_with fail
          by_cases hq0 : (li != lk) = true
          · have hq := hq0
            rw [hq] at e1
            refine G.wp_region_mono 24 (by kernel_rfl) (by kernel_rfl) (fun j v _ => v = mV b n i k i k vi vk li lk true (Sha.hash li == Sha.hash lk) j) (fun _ _ _ _ h _ => h) ⟨?_, ?_, ?_, ?_, ?_, ?_, ?_, ?_, ?_, ?_, ?_, ?_, ?_, ?_, ?_, ?_, ?_, ?_, ?_, ?_, ?_, ?_, ?_, ?_, trivial⟩ ?_
            · intro vals a w1 hb hs' hd'
              refine want rfl ?_
              have e0 : a.eval (.tmp 0) = Value.slice (some ⟨b, 0, none⟩) n n := hs' 0 (by decide)
              refine head_val (.slice (some ⟨b, 0, none⟩) n n) ?_ (Below.refl _ _) rfl
              generalize a.eval = ρ at *
              clear hs' hd'
              go_simp
            · intro vals a w1 hb hs' hd'
              refine want rfl ?_
              have e3 : a.eval (.tmp 3) = Value.int .i64 i := hs' 3 (by decide)
              refine head_val (.int .i64 i) ?_ (Below.refl _ _) rfl
              generalize a.eval = ρ at *
              clear hs' hd'
              go_simp
            · intro vals a w1 hb hs' hd'
              refine want rfl ?_
              have e15 : a.eval (.tmp 15) = _ := (hd' 0 (by decide)).1.trans (hd' 0 (by decide)).2
              have e16 : a.eval (.tmp 16) = _ := (hd' 1 (by decide)).1.trans (hd' 1 (by decide)).2
              simp only [mV] at e15 e16
              refine head_val (.pointer (some ⟨b, i, none⟩)) ?_ (Below.refl _ _) rfl
              generalize a.eval = ρ at *
              clear hs' hd'
              go_simp
            · intro vals a w1 hb hs' hd'
              refine want rfl ?_
              have e17 : a.eval (.tmp 17) = _ := (hd' 2 (by decide)).1.trans (hd' 2 (by decide)).2
              simp only [mV] at e17
              have hcc : w1.cell? ⟨b, i, none⟩ = some vi := (hb.cell (p := ⟨b, i, none⟩) hbl).trans hci
              refine head_val (vi) ?_ (Below.refl _ _) rfl
              generalize a.eval = ρ at *
              clear hs' hd'
              go_simp
            · intro vals a w1 hb hs' hd'
              refine want rfl ?_
              have e18 : a.eval (.tmp 18) = _ := (hd' 3 (by decide)).1.trans (hd' 3 (by decide)).2
              simp only [mV] at e18
              have hcv := conv_at (hbi.below hb)
              refine head_val (.string ⟨li.toArray⟩) ?_ (Below.refl _ _) rfl
              generalize a.eval = ρ at *
              clear hs' hd'
              simp only [execOp, e18, Sem.run_bind, hcv, Result.andThen_ok]
              rfl
            · intro vals a w1 hb hs' hd'
              refine want rfl ?_
              have e0 : a.eval (.tmp 0) = Value.slice (some ⟨b, 0, none⟩) n n := hs' 0 (by decide)
              refine head_val (.slice (some ⟨b, 0, none⟩) n n) ?_ (Below.refl _ _) rfl
              generalize a.eval = ρ at *
              clear hs' hd'
              go_simp
            · intro vals a w1 hb hs' hd'
              refine want rfl ?_
              have e4 : a.eval (.tmp 4) = Value.int .i64 k := hs' 4 (by decide)
              refine head_val (.int .i64 k) ?_ (Below.refl _ _) rfl
              generalize a.eval = ρ at *
              clear hs' hd'
              go_simp
            · intro vals a w1 hb hs' hd'
              refine want rfl ?_
              have e20 : a.eval (.tmp 20) = _ := (hd' 5 (by decide)).1.trans (hd' 5 (by decide)).2
              have e21 : a.eval (.tmp 21) = _ := (hd' 6 (by decide)).1.trans (hd' 6 (by decide)).2
              simp only [mV] at e20 e21
              refine head_val (.pointer (some ⟨b, k, none⟩)) ?_ (Below.refl _ _) rfl
              generalize a.eval = ρ at *
              clear hs' hd'
              go_simp
            · intro vals a w1 hb hs' hd'
              refine want rfl ?_
              have e22 : a.eval (.tmp 22) = _ := (hd' 7 (by decide)).1.trans (hd' 7 (by decide)).2
              simp only [mV] at e22
              have hcc : w1.cell? ⟨b, k, none⟩ = some vk := (hb.cell (p := ⟨b, k, none⟩) hbl).trans hck
              refine head_val (vk) ?_ (Below.refl _ _) rfl
              generalize a.eval = ρ at *
              clear hs' hd'
              go_simp
            · intro vals a w1 hb hs' hd'
              refine want rfl ?_
              have e23 : a.eval (.tmp 23) = _ := (hd' 8 (by decide)).1.trans (hd' 8 (by decide)).2
              simp only [mV] at e23
              have hcv := conv_at (hbk.below hb)
              refine head_val (.string ⟨lk.toArray⟩) ?_ (Below.refl _ _) rfl
              generalize a.eval = ρ at *
              clear hs' hd'
              simp only [execOp, e23, Sem.run_bind, hcv, Result.andThen_ok]
              rfl
            · intro vals a w1 hb hs' hd'
              refine want rfl ?_
              have e19 : a.eval (.tmp 19) = _ := (hd' 4 (by decide)).1.trans (hd' 4 (by decide)).2
              have e24 : a.eval (.tmp 24) = _ := (hd' 9 (by decide)).1.trans (hd' 9 (by decide)).2
              simp only [mV] at e19 e24
              have e1' := e1 w1
              refine head_val (.bool true) ?_ (Below.refl _ _) rfl
              generalize a.eval = ρ at *
              clear hs' hd'
              simp only [execOp, e19, e24, Sem.run_bind, eg9, e1', Result.andThen_ok]
              rfl
            · intro vals a w1 hb hs' hd'
              refine want rfl ?_
              have e25 : a.eval (.tmp 25) = _ := (hd' 10 (by decide)).1.trans (hd' 10 (by decide)).2
              simp only [mV] at e25
              refine head_val (.bool true) ?_ (Below.refl _ _) rfl
              generalize a.eval = ρ at *
              clear hs' hd'
              go_simp
            · intro vals a w1 hb hs' hd'
              refine want (gd_some rfl (hd' 11 (by decide)).2) ?_
              have e0 : a.eval (.tmp 0) = Value.slice (some ⟨b, 0, none⟩) n n := hs' 0 (by decide)
              refine head_val (.slice (some ⟨b, 0, none⟩) n n) ?_ (Below.refl _ _) rfl
              generalize a.eval = ρ at *
              clear hs' hd'
              go_simp
            · intro vals a w1 hb hs' hd'
              refine want (gd_some rfl (hd' 11 (by decide)).2) ?_
              have e3 : a.eval (.tmp 3) = Value.int .i64 i := hs' 3 (by decide)
              refine head_val (.int .i64 i) ?_ (Below.refl _ _) rfl
              generalize a.eval = ρ at *
              clear hs' hd'
              go_simp
            · intro vals a w1 hb hs' hd'
              refine want (gd_some rfl (hd' 11 (by decide)).2) ?_
              have e27 : a.eval (.tmp 27) = _ := (hd' 12 (by decide)).1.trans (hd' 12 (by decide)).2
              have e28 : a.eval (.tmp 28) = _ := (hd' 13 (by decide)).1.trans (hd' 13 (by decide)).2
              simp only [mV, if_true] at e27 e28
              refine head_val (.pointer (some ⟨b, i, none⟩)) ?_ (Below.refl _ _) rfl
              generalize a.eval = ρ at *
              clear hs' hd'
              go_simp
            · intro vals a w1 hb hs' hd'
              refine want (gd_some rfl (hd' 11 (by decide)).2) ?_
              have e29 : a.eval (.tmp 29) = _ := (hd' 14 (by decide)).1.trans (hd' 14 (by decide)).2
              simp only [mV, if_true] at e29
              have hcc : w1.cell? ⟨b, i, none⟩ = some vi := (hb.cell (p := ⟨b, i, none⟩) hbl).trans hci
              refine head_val (vi) ?_ (Below.refl _ _) rfl
              generalize a.eval = ρ at *
              clear hs' hd'
              go_simp
            · intro vals a w1 hb hs' hd'
              refine want (gd_some rfl (hd' 11 (by decide)).2) ?_
              have e30 : a.eval (.tmp 30) = _ := (hd' 15 (by decide)).1.trans (hd' 15 (by decide)).2
              simp only [mV, if_true] at e30
              have ef : a.eval (.func 27) = .func (.func 27) #[] #[] := rfl
              refine head_call (f := 27) (args := #[vi]) ?_ ((of_any vi li w1 (hbi.below hb) hli).mono fun e w' h => ⟨_, h.1, h.2, rfl⟩)
              generalize a.eval = ρ at *
              clear hs' hd'
              go_simp
            · intro vals a w1 hb hs' hd'
              refine want (gd_some rfl (hd' 11 (by decide)).2) ?_
              have e0 : a.eval (.tmp 0) = Value.slice (some ⟨b, 0, none⟩) n n := hs' 0 (by decide)
              refine head_val (.slice (some ⟨b, 0, none⟩) n n) ?_ (Below.refl _ _) rfl
              generalize a.eval = ρ at *
              clear hs' hd'
              go_simp
            · intro vals a w1 hb hs' hd'
              refine want (gd_some rfl (hd' 11 (by decide)).2) ?_
              have e4 : a.eval (.tmp 4) = Value.int .i64 k := hs' 4 (by decide)
              refine head_val (.int .i64 k) ?_ (Below.refl _ _) rfl
              generalize a.eval = ρ at *
              clear hs' hd'
              go_simp
            · intro vals a w1 hb hs' hd'
              refine want (gd_some rfl (hd' 11 (by decide)).2) ?_
              have e32 : a.eval (.tmp 32) = _ := (hd' 17 (by decide)).1.trans (hd' 17 (by decide)).2
              have e33 : a.eval (.tmp 33) = _ := (hd' 18 (by decide)).1.trans (hd' 18 (by decide)).2
              simp only [mV, if_true] at e32 e33
              refine head_val (.pointer (some ⟨b, k, none⟩)) ?_ (Below.refl _ _) rfl
              generalize a.eval = ρ at *
              clear hs' hd'
              go_simp
            · intro vals a w1 hb hs' hd'
              refine want (gd_some rfl (hd' 11 (by decide)).2) ?_
              have e34 : a.eval (.tmp 34) = _ := (hd' 19 (by decide)).1.trans (hd' 19 (by decide)).2
              simp only [mV, if_true] at e34
              have hcc : w1.cell? ⟨b, k, none⟩ = some vk := (hb.cell (p := ⟨b, k, none⟩) hbl).trans hck
              refine head_val (vk) ?_ (Below.refl _ _) rfl
              generalize a.eval = ρ at *
              clear hs' hd'
              go_simp
            · intro vals a w1 hb hs' hd'
              refine want (gd_some rfl (hd' 11 (by decide)).2) ?_
              have e35 : a.eval (.tmp 35) = _ := (hd' 20 (by decide)).1.trans (hd' 20 (by decide)).2
              simp only [mV, if_true] at e35
              have ef : a.eval (.func 27) = .func (.func 27) #[] #[] := rfl
              refine head_call (f := 27) (args := #[vk]) ?_ ((of_any vk lk w1 (hbk.below hb) hlk).mono fun e w' h => ⟨_, h.1, h.2, rfl⟩)
              generalize a.eval = ρ at *
              clear hs' hd'
              go_simp
            · intro vals a w1 hb hs' hd'
              refine want (gd_some rfl (hd' 11 (by decide)).2) ?_
              have e31 : a.eval (.tmp 31) = _ := (hd' 16 (by decide)).1.trans (hd' 16 (by decide)).2
              have e36 : a.eval (.tmp 36) = _ := (hd' 21 (by decide)).1.trans (hd' 21 (by decide)).2
              simp only [mV, if_true] at e31 e36
              have e2' := e2 w1
              refine head_val (.bool (Sha.hash li == Sha.hash lk)) ?_ (Below.refl _ _) rfl
              generalize a.eval = ρ at *
              clear hs' hd'
              simp only [execOp, e31, e36, Sem.run_bind, eg28, e2', Result.andThen_ok]
              rfl
            · intro vals a w1 hb hs' hd'
              refine want rfl ?_
              have e26 : a.eval (.tmp 26) = _ := (hd' 11 (by decide)).1.trans (hd' 11 (by decide)).2
              have e37 : a.eval (.tmp 37) = _ := (hd' 22 (by decide)).1.trans (hd' 22 (by decide)).2
              have ec : a.eval (.const (.bool false)) = .bool false := rfl
              simp only [mV, if_true] at e26 e37
              refine head_val (.bool (Sha.hash li == Sha.hash lk)) ?_ (Below.refl _ _) rfl
              generalize a.eval = ρ at *
              clear hs' hd'
              go_simp
            · intro vals W7 hb7 hall
              have h23 : vals 23 = .bool (Sha.hash li == Sha.hash lk) := hall 23 (by omega)
              have hhit : hitB li lk = (Sha.hash li == Sha.hash lk) := by unfold hitB; rw [hq]; rfl
              have HIT := Lib.hid hhit
              have HB7 := Lib.hid (HBK.out.trans (hb7.mono hwr))
              clear hall hb7 hhit
              simp only [List.take_succ_cons, List.take_zero, List.drop_succ_cons, List.drop_zero, G.putHeads, List.zipIdx_cons, List.zipIdx_nil, List.foldl_cons, List.foldl_nil, Act.put, List.setIfInBounds_toArray, List.set_cons_zero, List.set_cons_succ, Nat.zero_add, Nat.reduceAdd, h23]
              refine wpList_nil ?_
              by_cases hr : (Sha.hash li == Sha.hash lk) = true
              · rw [hr]
                go_wp2_with fail
                go_ret
                exact ⟨true, rfl, HB7.out, fun h => by cases h⟩
              · have hr' : (Sha.hash li == Sha.hash lk) = false := by simpa using hr
                have HR := Lib.hid hr'
                rw [hr']
                clear hr hr'
                go_wp2_with fail
                refine ⟨⟨k + 1, by omega, by simp, HB7.out, fun j hj => ?_⟩, by simp [intOf]; omega⟩
                by_cases hjk : j < k
                · exact HNK.out j hjk
                · obtain rfl : j = k := by omega
                  rw [← HLI.out, ← HLK.out, HIT.out, HR.out]
          · have hq : (li != lk) = false := by simpa using hq0
            rw [hq] at e1
            refine G.wp_region_mono 24 (by kernel_rfl) (by kernel_rfl) (fun j v _ => v = mV b n i k i k vi vk li lk false (Sha.hash li == Sha.hash lk) j) (fun _ _ _ _ h _ => h) ⟨?_, ?_, ?_, ?_, ?_, ?_, ?_, ?_, ?_, ?_, ?_, ?_, ?_, ?_, ?_, ?_, ?_, ?_, ?_, ?_, ?_, ?_, ?_, ?_, trivial⟩ ?_
            · intro vals a w1 hb hs' hd'
              refine want rfl ?_
              have e0 : a.eval (.tmp 0) = Value.slice (some ⟨b, 0, none⟩) n n := hs' 0 (by decide)
              refine head_val (.slice (some ⟨b, 0, none⟩) n n) ?_ (Below.refl _ _) rfl
              generalize a.eval = ρ at *
              clear hs' hd'
              go_simp
            · intro vals a w1 hb hs' hd'
              refine want rfl ?_
              have e3 : a.eval (.tmp 3) = Value.int .i64 i := hs' 3 (by decide)
              refine head_val (.int .i64 i) ?_ (Below.refl _ _) rfl
              generalize a.eval = ρ at *
              clear hs' hd'
              go_simp
            · intro vals a w1 hb hs' hd'
              refine want rfl ?_
              have e15 : a.eval (.tmp 15) = _ := (hd' 0 (by decide)).1.trans (hd' 0 (by decide)).2
              have e16 : a.eval (.tmp 16) = _ := (hd' 1 (by decide)).1.trans (hd' 1 (by decide)).2
              simp only [mV] at e15 e16
              refine head_val (.pointer (some ⟨b, i, none⟩)) ?_ (Below.refl _ _) rfl
              generalize a.eval = ρ at *
              clear hs' hd'
              go_simp
            · intro vals a w1 hb hs' hd'
              refine want rfl ?_
              have e17 : a.eval (.tmp 17) = _ := (hd' 2 (by decide)).1.trans (hd' 2 (by decide)).2
              simp only [mV] at e17
              have hcc : w1.cell? ⟨b, i, none⟩ = some vi := (hb.cell (p := ⟨b, i, none⟩) hbl).trans hci
              refine head_val (vi) ?_ (Below.refl _ _) rfl
              generalize a.eval = ρ at *
              clear hs' hd'
              go_simp
            · intro vals a w1 hb hs' hd'
              refine want rfl ?_
              have e18 : a.eval (.tmp 18) = _ := (hd' 3 (by decide)).1.trans (hd' 3 (by decide)).2
              simp only [mV] at e18
              have hcv := conv_at (hbi.below hb)
              refine head_val (.string ⟨li.toArray⟩) ?_ (Below.refl _ _) rfl
              generalize a.eval = ρ at *
              clear hs' hd'
              simp only [execOp, e18, Sem.run_bind, hcv, Result.andThen_ok]
              rfl
            · intro vals a w1 hb hs' hd'
              refine want rfl ?_
              have e0 : a.eval (.tmp 0) = Value.slice (some ⟨b, 0, none⟩) n n := hs' 0 (by decide)
              refine head_val (.slice (some ⟨b, 0, none⟩) n n) ?_ (Below.refl _ _) rfl
              generalize a.eval = ρ at *
              clear hs' hd'
              go_simp
            · intro vals a w1 hb hs' hd'
              refine want rfl ?_
              have e4 : a.eval (.tmp 4) = Value.int .i64 k := hs' 4 (by decide)
              refine head_val (.int .i64 k) ?_ (Below.refl _ _) rfl
              generalize a.eval = ρ at *
              clear hs' hd'
              go_simp
            · intro vals a w1 hb hs' hd'
              refine want rfl ?_
              have e20 : a.eval (.tmp 20) = _ := (hd' 5 (by decide)).1.trans (hd' 5 (by decide)).2
              have e21 : a.eval (.tmp 21) = _ := (hd' 6 (by decide)).1.trans (hd' 6 (by decide)).2
              simp only [mV] at e20 e21
              refine head_val (.pointer (some ⟨b, k, none⟩)) ?_ (Below.refl _ _) rfl
              generalize a.eval = ρ at *
              clear hs' hd'
              go_simp
            · intro vals a w1 hb hs' hd'
              refine want rfl ?_
              have e22 : a.eval (.tmp 22) = _ := (hd' 7 (by decide)).1.trans (hd' 7 (by decide)).2
              simp only [mV] at e22
              have hcc : w1.cell? ⟨b, k, none⟩ = some vk := (hb.cell (p := ⟨b, k, none⟩) hbl).trans hck
              refine head_val (vk) ?_ (Below.refl _ _) rfl
              generalize a.eval = ρ at *
              clear hs' hd'
              go_simp
            · intro vals a w1 hb hs' hd'
              refine want rfl ?_
              have e23 : a.eval (.tmp 23) = _ := (hd' 8 (by decide)).1.trans (hd' 8 (by decide)).2
              simp only [mV] at e23
              have hcv := conv_at (hbk.below hb)
              refine head_val (.string ⟨lk.toArray⟩) ?_ (Below.refl _ _) rfl
              generalize a.eval = ρ at *
              clear hs' hd'
              simp only [execOp, e23, Sem.run_bind, hcv, Result.andThen_ok]
              rfl
            · intro vals a w1 hb hs' hd'
              refine want rfl ?_
              have e19 : a.eval (.tmp 19) = _ := (hd' 4 (by decide)).1.trans (hd' 4 (by decide)).2
              have e24 : a.eval (.tmp 24) = _ := (hd' 9 (by decide)).1.trans (hd' 9 (by decide)).2
              simp only [mV] at e19 e24
              have e1' := e1 w1
              refine head_val (.bool false) ?_ (Below.refl _ _) rfl
              generalize a.eval = ρ at *
              clear hs' hd'
              simp only [execOp, e19, e24, Sem.run_bind, eg9, e1', Result.andThen_ok]
              rfl
            · intro vals a w1 hb hs' hd'
              refine want rfl ?_
              have e25 : a.eval (.tmp 25) = _ := (hd' 10 (by decide)).1.trans (hd' 10 (by decide)).2
              simp only [mV] at e25
              refine head_val (.bool false) ?_ (Below.refl _ _) rfl
              generalize a.eval = ρ at *
              clear hs' hd'
              go_simp
            · intro vals a w1 hb hs' hd'
              exact unwant (gd_other rfl (hd' 11 (by decide)).2 (by decide)) rfl
            · intro vals a w1 hb hs' hd'
              exact unwant (gd_other rfl (hd' 11 (by decide)).2 (by decide)) rfl
            · intro vals a w1 hb hs' hd'
              exact unwant (gd_other rfl (hd' 11 (by decide)).2 (by decide)) rfl
            · intro vals a w1 hb hs' hd'
              exact unwant (gd_other rfl (hd' 11 (by decide)).2 (by decide)) rfl
            · intro vals a w1 hb hs' hd'
              exact unwant (gd_other rfl (hd' 11 (by decide)).2 (by decide)) rfl
            · intro vals a w1 hb hs' hd'
              exact unwant (gd_other rfl (hd' 11 (by decide)).2 (by decide)) rfl
            · intro vals a w1 hb hs' hd'
              exact unwant (gd_other rfl (hd' 11 (by decide)).2 (by decide)) rfl
            · intro vals a w1 hb hs' hd'
              exact unwant (gd_other rfl (hd' 11 (by decide)).2 (by decide)) rfl
            · intro vals a w1 hb hs' hd'
              exact unwant (gd_other rfl (hd' 11 (by decide)).2 (by decide)) rfl
            · intro vals a w1 hb hs' hd'
              exact unwant (gd_other rfl (hd' 11 (by decide)).2 (by decide)) rfl
            · intro vals a w1 hb hs' hd'
              exact unwant (gd_other rfl (hd' 11 (by decide)).2 (by decide)) rfl
            · intro vals a w1 hb hs' hd'
              refine want rfl ?_
              have e26 : a.eval (.tmp 26) = _ := (hd' 11 (by decide)).1.trans (hd' 11 (by decide)).2
              have e37 : a.eval (.tmp 37) = _ := (hd' 22 (by decide)).1.trans (hd' 22 (by decide)).2
              have ec : a.eval (.const (.bool false)) = .bool false := rfl
              simp only [mV, Bool.false_eq_true, if_false] at e26 e37
              refine head_val (.bool false) ?_ (Below.refl _ _) rfl
              generalize a.eval = ρ at *
              clear hs' hd'
              go_simp
            · intro vals W7 hb7 hall
              have h23 : vals 23 = .bool false := hall 23 (by omega)
              have hhit : hitB li lk = false := by unfold hitB; rw [hq]; rfl
              have HIT := Lib.hid hhit
              have HB7 := Lib.hid (HBK.out.trans (hb7.mono hwr))
              clear hall hb7 hhit
              simp only [List.take_succ_cons, List.take_zero, List.drop_succ_cons, List.drop_zero, G.putHeads, List.zipIdx_cons, List.zipIdx_nil, List.foldl_cons, List.foldl_nil, Act.put, List.setIfInBounds_toArray, List.set_cons_zero, List.set_cons_succ, Nat.zero_add, Nat.reduceAdd, h23]
              refine wpList_nil ?_
              go_wp2_with fail
              refine ⟨⟨k + 1, by omega, by simp, HB7.out, fun j hj => ?_⟩, by simp [intOf]; omega⟩
              by_cases hjk : j < k
              · exact HNK.out j hjk
              · obtain rfl : j = k := by omega
                rw [← HLI.out, ← HLK.out, HIT.out]
        · go_wp2_with fail
          refine ⟨⟨i + 1, by omega, by simp, HBK.out, fun a c hc ha => ?_⟩, by simp [intOf]; omega⟩
          by_cases hai : a < i
          · exact HNO.out a c hc hai
          · obtain rfl : a = i := by omega
            exact HNK.out c (by omega)
    · go_wp2_with fail
      go_ret
      exact ⟨false, rfl, HBE.out, fun _ a c hc ha => HNO.out a c hc (by omega)⟩
end Go.Proofs.Ytdecbimklomdjaa
