/- purser/octet: a Pen's put, Fixed, Raw, All. -/
import Derived.Test.YtdecbimklomdjaaNmA
import Derived.Test.YtdecbimklomdjaaShelfJ
import Derived.Test.YtdecbimklomdjaaPower
namespace Go.Proofs.Ytdecbimklomdjaa
open Go Go.RowKit Go.Shelf
/-- A number's bytes, the lowest first. -/
def leB : Nat → Nat → List UInt8
  | 0, _ => []
  | k + 1, n => UInt8.ofNat n :: leB k (n / 256)
theorem leB_snoc : ∀ k n, leB (k + 1) n = leB k n ++ [UInt8.ofNat (n / 256 ^ k)]
  | 0, n => by simp [leB]
  | k + 1, n => by
    rw [leB, leB_snoc k (n / 256), leB, List.cons_append, Nat.div_div_eq_div_mul, Nat.pow_succ, Nat.mul_comm 256]
theorem leB_length : ∀ k n, (leB k n).length = k
  | 0, _ => rfl
  | k + 1, n => by rw [leB, List.length_cons, leB_length k]
/-- The block of a Pen that has written bytes; they lie behind it. -/
def PenAt (w : World) (p : Nat) (l : List UInt8) : Prop := ∃ v, w.heap[p]? = some (.cells #[v] 186 (0, 0)) ∧ w.ownsRow (p + 1) 5 1 v l.length (l.map V8)
theorem own_ne {w : World} {base : Nat} {e : TypeId} {s n : Nat} {v : Value} {xs : List Value} (h : w.ownsRow base e s v n xs) {p : Nat} (hp : p < base) : v.ownBlock ≠ some p := by
  rcases h.2 with ⟨rfl, _⟩ | ⟨g, cap, cur, rfl, hb, _⟩
  · intro h; cases h
  · intro h; have : g = p := Option.some.inj h; omega
theorem own_ge {w : World} {base : Nat} {e : TypeId} {s n : Nat} {v : Value} {xs : List Value} (h : w.ownsRow base e s v n xs) {k : Nat} (hk : v.ownBlock = some k) : base ≤ k := by
  rcases h.2 with ⟨rfl, _⟩ | ⟨g, cap, cur, rfl, hb, _⟩
  · cases hk
  · have : g = k := Option.some.inj hk; omega
theorem own_slice {w : World} {base : Nat} {e : TypeId} {s n : Nat} {v : Value} {xs : List Value} (h : w.ownsRow base e s v n xs) : ∃ a c, v = .slice a n c := by
  rcases h.2 with ⟨rfl, rfl⟩ | ⟨g, cap, cur, rfl, _⟩
  · exact ⟨_, _, rfl⟩
  · exact ⟨_, _, rfl⟩
theorem V8_ofNat (m : Nat) : V8 (UInt8.ofNat m) = .int .u8 ((m : Int) % 256) := by
  unfold V8 b8
  rw [UInt8.toNat_ofNat']
  rfl
/-- The Pen's slice has grown, and is put back. -/
theorem PenAt.put {wr w0 w1 : World} {p : Nat} {v v' : Value} {L : List UInt8} (hv : wr.heap[p]? = some (.cells #[v] 186 (0, 0))) (hne : v.ownBlock ≠ some p) (h0 : Below wr.heap.size wr w0)
    (hown : w1.ownsRow (p + 1) 5 1 v' L.length (L.map V8)) (hgr : w0.grownBy w1 v.ownBlock) (hro : ∀ k, v.ownBlock = some k → p ≤ k) :
    w1.heap[p]? = some (.cells #[v] 186 (0, 0)) ∧ PenAt (w1.setCell ⟨p, 0, none⟩ v') p L ∧ Below p wr (w1.setCell ⟨p, 0, none⟩ v') := by
  have hplt : p < wr.heap.size := (Array.getElem?_eq_some_iff.1 hv).1
  have hv1 : w1.heap[p]? = some (.cells #[v] 186 (0, 0)) := (hgr.block p (Nat.lt_of_lt_of_le hplt h0.size) (Ne.symm hne)).trans ((h0.block p hplt).trans hv)
  have hb1 : Below p wr w1 := (h0.mono (by omega)).trans (((Below.refl p w0).grown hgr (by have := h0.size; omega) hro))
  refine ⟨hv1, ⟨v', (heap_setCell_same _ _ _ _ _ _ hv1).trans rfl, hown.kept (row := some p) (grown_setCell (Below.refl w1.heap.size w1 |> grownBy_of_below <| _) _ _ rfl) ?_⟩, hb1.setCell (p := ⟨p, 0, none⟩) (Nat.le_refl _) _⟩
  have := own_ne hown (Nat.lt_succ_self p)
  cases h : v'.ownBlock with
  | none => exact .inl rfl
  | some k => exact .inr (by rw [h] at this; exact this)
set_option maxRecDepth 100000 in
set_option maxHeartbeats 1000000 in
theorem put_any (p n : Nat) (l : List UInt8) (hl : l.length ≤ 1000) (hn : n < 4294967296) (w : World) (hp : PenAt w p l) :
    Calls Try.prog 149 #[.pointer (some ⟨p, 0, none⟩), .int .i64 4, .int .u64 (n : Int)] w fun e w' => e = .returned (.tuple #[]) ∧ PenAt w' p (l ++ leB 4 n) ∧ Below p w w' := by
  obtain ⟨i0, hi, hz0, hz1, hz2⟩ := info_parts info5
  have HI := Lib.hid hi
  have H0 := Lib.hid hz0
  have H1 := Lib.hid hz1
  have H2 := Lib.hid hz2
  have HL := Lib.hid hl
  have HP := Lib.hid hp
  have HN := Lib.hid hn
  clear hi hz0 hz1 hz2 hl hp hn
  go_enter Try.func149, Try.ntmps149
  go_wp2_with fail
  go_loopw [2, 7] (fun m i wr => ∃ (k : Nat), k ≤ 4 ∧ i = .int .i64 k ∧ m = .int .u64 ((n / 256 ^ k : Nat) : Int) ∧ PenAt wr p (l ++ leB k n) ∧ Below p w wr) (fun _ i _ => 4 - (intOf i).toNat)
  case atStart => exact ⟨0, by omega, rfl, by simp, by simpa [leB] using HP.out, Below.refl _ _⟩
  case round =>
    obtain ⟨k, hk, rfl, rfl, hpen, hbe⟩ := hrel
    have HBE := Lib.hid hbe
    obtain ⟨m, hm⟩ : ∃ m, m = n / 256 ^ k := ⟨_, rfl⟩
    have hmb : m < 4294967296 := by rw [hm]; exact Nat.lt_of_le_of_lt (Nat.div_le_self _ _) HN.out
    have hdiv : n / 256 ^ (k + 1) = m / 256 := by rw [hm, Nat.div_div_eq_div_mul, Nat.pow_succ]
    have HM := Lib.hid hm
    have HDV := Lib.hid hdiv
    rw [← hm]
    clear hbe hm hdiv
    by_cases hlt : k < 4
    · have hlti : (k : Int) < 4 := by omega
      obtain ⟨v, hv, hown⟩ := hpen
      have hplt : p < wr.heap.size := (Array.getElem?_eq_some_iff.1 hv).1
      have hc : wr.cell? ⟨p, 0, none⟩ = some v := cell_of_row _ _ _ _ _ _ hv
      have HV := Lib.hid hv
      have HOWN := Lib.hid hown
      obtain ⟨L, hL⟩ : ∃ L, L = l ++ leB k n := ⟨_, rfl⟩
      rw [← hL] at HOWN
      have hLl : L.length ≤ 1004 := by rw [hL, List.length_append, leB_length]; have := HL.out; omega
      have HLL := Lib.hid hLl
      have HLE := Lib.hid hL
      clear hv hown hL hLl
      go_wp2_with (at_builtin; refine wpList_append_own _ rfl _ _ 25 rfl (p + 1) 5 i0 (.int .u8 0) 1 1 Try.underlying25 HI.out H0.out H1.out H2.out rfl (by decide) _ L.length (L.map V8) rfl (HOWN.out.alloc _) ⟨wr.heap.size, 0, none⟩ 1 1 [.int .u8 ((m : Int) % 256)] rfl rfl ?c1 ?c2 ?c3 ?c4 ?c5 ?_)
      case c1 => intro j u hu; simpa using cell_one_new _ _ _ j u hu
      case c2 => intro u hu; simp at hu; subst hu; rfl
      case c3 => have := HLL.out; unfold maxLen; omega
      case c4 => have := HLL.out; omega
      case c5 => simp; omega
      intro v' w1 hown hgr _
      obtain ⟨va, vc, rfl⟩ := own_slice hown
      have hown' : w1.ownsRow (p + 1) 5 1 (.slice va (L.length + 1) vc) (L ++ [UInt8.ofNat m]).length ((L ++ [UInt8.ofNat m]).map V8) := by
        rw [List.map_append, List.length_append, List.map_cons, List.map_nil, V8_ofNat]
        exact hown
      obtain ⟨hv1, hpen, hbp⟩ := PenAt.put HV.out (own_ne HOWN.out (Nat.lt_succ_self p)) ((Below.refl _ wr).alloc (Nat.le_refl _) _) hown' hgr (fun k hk => by have := own_ge HOWN.out hk; omega)
      have hc1 : w1.cell? ⟨p, 0, none⟩ = some v := cell_of_row _ _ _ _ _ _ hv1
      have hf1 : w1.frozen? ⟨p, 0, none⟩ = false := frozen_of_row _ _ _ _ _ hv1
      have HPEN := Lib.hid hpen
      have HBP := Lib.hid (HBE.out.trans hbp)
      clear hown hown' hgr hv1 hpen hbp hc
      go_wp2_with fail
      refine ⟨⟨k + 1, by omega, by go_num, by rw [HDV.out]; go_num, ?_, HBP.out⟩, by simp [intOf]; omega⟩
      rw [leB_snoc, ← HM.out, ← List.append_assoc, ← HLE.out]
      exact HPEN.out
    · have hk4 : k = 4 := by omega
      subst hk4
      have HPEN := Lib.hid hpen
      clear hpen
      go_wp2_with fail
      go_end0
      exact ⟨rfl, HPEN.out, HBE.out⟩
theorem wide4 (w : World) : Calls Try.prog 147 #[.int .i64 4] w fun e w' => e = .returned (.bool true) ∧ w = w' := by
  go_enter Try.func147, Try.ntmps147
  go_wp2_with fail
  go_ret
  exact ⟨rfl, rfl⟩
theorem goes4 (n : Nat) (hn : n < 4294967296) (w : World) : Calls Try.prog 148 #[.int .u64 (n : Int), .int .i64 4] w fun e w' => e = .returned (.bool true) ∧ w = w' := by
  have hd : (n : Int) / 4294967296 = 0 := by omega
  go_enter Try.func148, Try.ntmps148
  go_wp2_with fail
  go_ret
  exact ⟨rfl, rfl⟩
set_option maxRecDepth 100000 in
theorem fixed_any (p n : Nat) (l : List UInt8) (hl : l.length ≤ 1000) (hn : n < 4294967296) (w : World) (hp : PenAt w p l) :
    Calls Try.prog 135 #[.pointer (some ⟨p, 0, none⟩), .int .i64 4, .int .u64 (n : Int)] w fun e w' => e = .returned (.int .i64 0) ∧ PenAt w' p (l ++ leB 4 n) ∧ Below p w w' := by
  have HN := Lib.hid hn
  have HL := Lib.hid hl
  have HP := Lib.hid hp
  clear hn hl hp
  go_enter Try.func135, Try.ntmps135
  go_wp2_with (first | (go_at_call 147; refine (wide4 _).mono ?_; rintro e w' ⟨rfl, rfl⟩) | (go_at_call 148; refine (goes4 n HN.out _).mono ?_; rintro e w' ⟨rfl, rfl⟩) | (go_at_call 149; refine (put_any p n l HL.out HN.out w HP.out).mono ?_; rintro e w1 ⟨rfl, hp1, hb1⟩))
  go_ret
  exact ⟨rfl, hp1, hb1⟩
set_option maxRecDepth 100000 in
theorem all_any (p : Nat) (l : List UInt8) (hl : l.length ≤ 1000) (w : World) (hp : PenAt w p l) :
    Calls Try.prog 137 #[.pointer (some ⟨p, 0, none⟩)] w fun e w' => ∃ v, e = .returned v ∧ BytesAt w' v l ∧ Below w.heap.size w w' := by
  obtain ⟨v, hv, hown⟩ := hp
  have hc : w.cell? ⟨p, 0, none⟩ = some v := cell_of_row _ _ _ _ _ _ hv
  have hb : BytesAt w v l := BytesAt.of_owns hown
  have HB := Lib.hid hb
  have HL := Lib.hid hl
  clear hv hown hb hl
  go_enter Try.func137, Try.ntmps137
  go_wp2_with (go_at_call 76; refine (clone_any v l w HB.out (by have := HL.out; omega)).mono ?_; rintro e w1 ⟨v1, rfl, hown1, hb1⟩)
  go_ret
  exact ⟨v1, rfl, BytesAt.of_owns hown1, hb1⟩
end Go.Proofs.Ytdecbimklomdjaa
