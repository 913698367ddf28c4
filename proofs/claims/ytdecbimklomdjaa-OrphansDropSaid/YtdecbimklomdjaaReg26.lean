/- purserlaw04.ShaRoots: the test behind each root, a region that draws its order. -/
import Derived.Test.YtdecbimklomdjaaPower
import Derived.Test.YtdecbimklomdjaaRootsP
namespace Go.Proofs.Ytdecbimklomdjaa
open Go Go.RowKit Go.Shelf
theorem cmpI_le (a b : Nat) (h : a ≤ b) : cmpI a b ≤ 0 := by unfold cmpI; split <;> (try split) <;> omega
theorem cmpI_gt (a b : Nat) (h : b < a) : 0 < cmpI a b := by unfold cmpI; split <;> (try split) <;> omega
theorem pow_small (n t : Nat) (hn : n < 18446744073709551616) (ht : t ≤ 3) : n ^ t < 18446744073709551616 ^ 4 := by
  have h1 : n ^ t ≤ 18446744073709551616 ^ t := Nat.pow_le_pow_left (by omega) t
  have h2 : (18446744073709551616 : Nat) ^ t ≤ 18446744073709551616 ^ 3 := Nat.pow_le_pow_right (by omega) ht
  omega
theorem power_at (n : Nat) (z : Int) (t : Nat) (s : Int) (hz : z = (n : Int)) (hs : s = (t : Int)) (hn : n < 18446744073709551616) (ht : t ≤ 3) (w : World) :
    Calls Try.prog 63 #[.int .u64 z, .int .i64 s] w fun e w' => e = .returned (wideN (n ^ t)) ∧ Below w.heap.size w w' := by
  subst hz hs
  exact power_any n t hn ht w
theorem wrap_u64_in (x : Int) (h0 : 0 ≤ x) (h1 : x < 18446744073709551616) : IntKind.u64.wrap x = x := by
  obtain ⟨n, rfl⟩ : ∃ n : Nat, x = n := ⟨x.toNat, by omega⟩
  exact Mul64.wrapN n (by omega)
/-- A region of a function's code, by its number. -/
def regionOf (n : Nat) : Code → Option (Array Oper)
  | .region id ops _ => if id == n then some ops else none
  | .seq a b => match regionOf n a with
    | some x => some x
    | none => regionOf n b
  | .block _ c => regionOf n c
  | .loop c => regionOf n c
  | .scope c => regionOf n c
  | .cond _ a b => match regionOf n a with
    | some x => some x
    | none => regionOf n b
  | _ => none
noncomputable def ops26 : Array Oper := ((Try.f15.body.bind (regionOf 26)).getD #[])
set_option maxRecDepth 100000 in
theorem put26 (a : Act) (vals : Nat → Value) : G.putHeads a ops26.toList vals = (((((((((((((((((((((a.put (some 82) (vals 0)).put (some 83) (vals 1)).put (some 84) (vals 2)).put (some 85) (vals 3)).put (some 86) (vals 4)).put (some 87) (vals 5)).put (some 88) (vals 6)).put (some 89) (vals 7)).put (some 90) (vals 8)).put (some 91) (vals 9)).put (some 92) (vals 10)).put (some 93) (vals 11)).put (some 94) (vals 12)).put (some 95) (vals 13)).put (some 96) (vals 14)).put (some 97) (vals 15)).put (some 98) (vals 16)).put (some 99) (vals 17)).put (some 100) (vals 18)).put (some 101) (vals 19)).put (some 102) (vals 20)) := rfl
def rtV2 (r L wt : Nat) : Nat → Value
  | 0 => .int .u64 (r : Int)
  | 1 => .int .u64 ((r : Int) * 4294967296)
  | 2 => .int .u64 (L : Int)
  | 3 => .int .u64 ((r : Int) * 4294967296 + L)
  | 4 => .int .i64 2
  | 5 => wideN ((r * 4294967296 + L) ^ 2)
  | 6 => .agg (wideA (digs 4 wt))
  | 7 => .int .i64 (cmpI ((r * 4294967296 + L) ^ 2) wt)
  | 8 => .bool false
  | 9 => .bool false
  | 10 => .int .u64 (r : Int)
  | 11 => .int .u64 ((r : Int) * 4294967296)
  | 12 => .int .u64 (L : Int)
  | 13 => .int .u64 ((r : Int) * 4294967296 + L)
  | 14 => .int .u64 ((r : Int) * 4294967296 + L + 1)
  | 15 => .int .i64 2
  | 16 => wideN ((r * 4294967296 + L + 1) ^ 2)
  | 17 => .agg (wideA (digs 4 wt))
  | 18 => .int .i64 (cmpI ((r * 4294967296 + L + 1) ^ 2) wt)
  | 19 => .bool false
  | _ => .bool false
def rtV3 (r L wt : Nat) : Nat → Value
  | 0 => .int .u64 (r : Int)
  | 1 => .int .u64 ((r : Int) * 4294967296)
  | 2 => .int .u64 (L : Int)
  | 3 => .int .u64 ((r : Int) * 4294967296 + L)
  | 4 => .int .i64 3
  | 5 => wideN ((r * 4294967296 + L) ^ 3)
  | 6 => .agg (wideA (digs 4 wt))
  | 7 => .int .i64 (cmpI ((r * 4294967296 + L) ^ 3) wt)
  | 8 => .bool false
  | 9 => .bool false
  | 10 => .int .u64 (r : Int)
  | 11 => .int .u64 ((r : Int) * 4294967296)
  | 12 => .int .u64 (L : Int)
  | 13 => .int .u64 ((r : Int) * 4294967296 + L)
  | 14 => .int .u64 ((r : Int) * 4294967296 + L + 1)
  | 15 => .int .i64 3
  | 16 => wideN ((r * 4294967296 + L + 1) ^ 3)
  | 17 => .agg (wideA (digs 4 wt))
  | 18 => .int .i64 (cmpI ((r * 4294967296 + L + 1) ^ 3) wt)
  | 19 => .bool false
  | _ => .bool false
set_option maxRecDepth 100000 in
set_option maxHeartbeats 4000000 in
theorem reg26_2 (r L wt D : Nat) (wf : World) (a : Act) (Q : Exit → Act → World → Prop) (hrl : r ≤ 17) (hLb : L < 4294967296) (hwb : wt < 18446744073709551616 ^ 4) (ho1 : (r * 4294967296 + L) ^ 2 ≤ wt) (ho2 : wt < (r * 4294967296 + L + 1) ^ 2)
    (hd : wf.heap[D]? = some (.cells (wideA (digs 4 wt)) 102 (0, 0))) (hsz : a.tmps.size = 106) (h7 : a.eval (.tmp 7) = .int .i64 2) (h8 : a.eval (.tmp 8) = .int .u64 (L : Int)) (h9 : a.eval (.tmp 9) = .int .u64 (r : Int)) (h10 : a.eval (.tmp 10) = .pointer (some ⟨D, 0, none⟩))
    (hQ : ∀ vals wg, vals 20 = .bool false → Below wf.heap.size wf wg → Q .normal (G.putHeads a ops26.toList vals) wg) :
    (Code.region 26 ops26 true).wp Try.prog Q a wf := by
  have HRL := Lib.hid hrl
  have HLB := Lib.hid hLb
  have HWB := Lib.hid hwb
  have HRO1 := Lib.hid ho1
  have HRO2 := Lib.hid ho2
  have HD := Lib.hid hd
  clear hrl hLb hwb ho1 ho2 hd
  refine G.wp_region_mono (l := ops26.toList) 21 (by kernel_rfl) (by rw [hsz]; kernel_rfl) (fun i v _ => v = rtV2 r L wt i) (fun _ _ _ _ h _ => h) ⟨?_, ?_, ?_, ?_, ?_, ?_, ?_, ?_, ?_, ?_, ?_, ?_, ?_, ?_, ?_, ?_, ?_, ?_, ?_, ?_, ?_, trivial⟩ ?_
  · intro vals a w1 hb hs' hd'
    refine want rfl ?_
    have e9 : a.eval (.tmp 9) = Value.int .u64 (r : Int) := (hs' 9 (by decide)).trans h9
    refine head_val (.int .u64 (r : Int)) ?_ (Below.refl _ _) rfl
    generalize a.eval = ρ at *
    clear hs' hd'
    go_simp
  · intro vals a w1 hb hs' hd'
    refine want rfl ?_
    have e82 : a.eval (.tmp 82) = _ := (hd' 0 (by decide)).1.trans (hd' 0 (by decide)).2
    simp only [rtV2] at e82
    have ec : a.eval (.const (.int .u64 32)) = .int .u64 32 := rfl
    have hr0 : (r : Int) * 4294967296 < 18446744073709551616 := by have := HRL.out; omega
    refine head_val (.int .u64 ((r : Int) * 4294967296)) ?_ (Below.refl _ _) rfl
    generalize a.eval = ρ at *
    clear hs' hd'
    go_simp
    first | done | exact wrap_u64_in _ (by omega) (by omega)
  · intro vals a w1 hb hs' hd'
    refine want rfl ?_
    have e8 : a.eval (.tmp 8) = Value.int .u64 (L : Int) := (hs' 8 (by decide)).trans h8
    refine head_val (.int .u64 (L : Int)) ?_ (Below.refl _ _) rfl
    generalize a.eval = ρ at *
    clear hs' hd'
    go_simp
  · intro vals a w1 hb hs' hd'
    refine want rfl ?_
    have e83 : a.eval (.tmp 83) = _ := (hd' 1 (by decide)).1.trans (hd' 1 (by decide)).2
    simp only [rtV2] at e83
    have e84 : a.eval (.tmp 84) = _ := (hd' 2 (by decide)).1.trans (hd' 2 (by decide)).2
    simp only [rtV2] at e84
    have hr0 : (r : Int) * 4294967296 + L < 18446744073709551616 := by have := HRL.out; have := HLB.out; omega
    have hr1 : (0 : Int) ≤ (r : Int) * 4294967296 := by omega
    refine head_val (.int .u64 ((r : Int) * 4294967296 + L)) ?_ (Below.refl _ _) rfl
    generalize a.eval = ρ at *
    clear hs' hd'
    go_simp
    first | done | exact wrap_u64_in _ (by omega) (by omega)
  · intro vals a w1 hb hs' hd'
    refine want rfl ?_
    have e7 : a.eval (.tmp 7) = Value.int .i64 2 := (hs' 7 (by decide)).trans h7
    refine head_val (.int .i64 2) ?_ (Below.refl _ _) rfl
    generalize a.eval = ρ at *
    clear hs' hd'
    go_simp
  · intro vals a w1 hb hs' hd'
    refine want rfl ?_
    have e85 : a.eval (.tmp 85) = _ := (hd' 3 (by decide)).1.trans (hd' 3 (by decide)).2
    simp only [rtV2] at e85
    have e86 : a.eval (.tmp 86) = _ := (hd' 4 (by decide)).1.trans (hd' 4 (by decide)).2
    simp only [rtV2] at e86
    have ef : a.eval (.func 63) = .func (.func 63) #[] #[] := rfl
    refine head_call (f := 63) (args := #[.int .u64 ((r : Int) * 4294967296 + L), .int .i64 2]) ?_ ((power_at (r * 4294967296 + L) _ 2 _ (by omega) rfl (by have := HRL.out; have := HLB.out; omega) (by decide) w1).mono fun e w' h => ⟨_, h.1, h.2, rfl⟩)
    generalize a.eval = ρ at *
    clear hs' hd'
    go_simp
  · intro vals a w1 hb hs' hd'
    refine want rfl ?_
    have e10 : a.eval (.tmp 10) = Value.pointer (some ⟨D, 0, none⟩) := (hs' 10 (by decide)).trans h10
    have hl := load_wide (block_below' hb HD.out)
    refine head_val (.agg (wideA (digs 4 wt))) ?_ (Below.refl _ _) rfl
    generalize a.eval = ρ at *
    clear hs' hd'
    simp only [execOp, e10, Instr.loadAt, Instr.sureAddr, Sem.run_bind, Sem.run_pure, Result.andThen_ok, hl]
  · intro vals a w1 hb hs' hd'
    refine want rfl ?_
    have e87 : a.eval (.tmp 87) = _ := (hd' 5 (by decide)).1.trans (hd' 5 (by decide)).2
    simp only [rtV2] at e87
    have e88 : a.eval (.tmp 88) = _ := (hd' 6 (by decide)).1.trans (hd' 6 (by decide)).2
    simp only [rtV2] at e88
    have ef : a.eval (.func 62) = .func (.func 62) #[] #[] := rfl
    refine head_call (f := 62) (args := #[wideN ((r * 4294967296 + L) ^ 2), wideN wt]) ?_ ((cmp_any ((r * 4294967296 + L) ^ 2) wt (pow_small _ _ (by have := HRL.out; have := HLB.out; omega) (by decide)) HWB.out w1).mono fun e w' h => ⟨_, h.1, h.2, rfl⟩)
    generalize a.eval = ρ at *
    clear hs' hd'
    go_simp
    rfl
  · intro vals a w1 hb hs' hd'
    refine want rfl ?_
    have e89 : a.eval (.tmp 89) = _ := (hd' 7 (by decide)).1.trans (hd' 7 (by decide)).2
    simp only [rtV2] at e89
    have ec : a.eval (.const (.int .i64 0)) = .int .i64 0 := rfl
    have hcv := cmpI_le _ _ HRO1.out
    generalize cmpI _ _ = cv at *
    refine head_val (.bool false) ?_ (Below.refl _ _) rfl
    generalize a.eval = ρ at *
    clear hs' hd'
    go_simp
  · intro vals a w1 hb hs' hd'
    refine want rfl ?_
    have e90 : a.eval (.tmp 90) = _ := (hd' 8 (by decide)).1.trans (hd' 8 (by decide)).2
    simp only [rtV2] at e90
    refine head_val (.bool false) ?_ (Below.refl _ _) rfl
    generalize a.eval = ρ at *
    clear hs' hd'
    go_simp
  · intro vals a w1 hb hs' hd'
    refine want (gd_some rfl (hd' 9 (by decide)).2) ?_
    have e9 : a.eval (.tmp 9) = Value.int .u64 (r : Int) := (hs' 9 (by decide)).trans h9
    refine head_val (.int .u64 (r : Int)) ?_ (Below.refl _ _) rfl
    generalize a.eval = ρ at *
    clear hs' hd'
    go_simp
  · intro vals a w1 hb hs' hd'
    refine want (gd_some rfl (hd' 9 (by decide)).2) ?_
    have e92 : a.eval (.tmp 92) = _ := (hd' 10 (by decide)).1.trans (hd' 10 (by decide)).2
    simp only [rtV2] at e92
    have ec : a.eval (.const (.int .u64 32)) = .int .u64 32 := rfl
    have hr0 : (r : Int) * 4294967296 < 18446744073709551616 := by have := HRL.out; omega
    refine head_val (.int .u64 ((r : Int) * 4294967296)) ?_ (Below.refl _ _) rfl
    generalize a.eval = ρ at *
    clear hs' hd'
    go_simp
    first | done | exact wrap_u64_in _ (by omega) (by omega)
  · intro vals a w1 hb hs' hd'
    refine want (gd_some rfl (hd' 9 (by decide)).2) ?_
    have e8 : a.eval (.tmp 8) = Value.int .u64 (L : Int) := (hs' 8 (by decide)).trans h8
    refine head_val (.int .u64 (L : Int)) ?_ (Below.refl _ _) rfl
    generalize a.eval = ρ at *
    clear hs' hd'
    go_simp
  · intro vals a w1 hb hs' hd'
    refine want (gd_some rfl (hd' 9 (by decide)).2) ?_
    have e93 : a.eval (.tmp 93) = _ := (hd' 11 (by decide)).1.trans (hd' 11 (by decide)).2
    simp only [rtV2] at e93
    have e94 : a.eval (.tmp 94) = _ := (hd' 12 (by decide)).1.trans (hd' 12 (by decide)).2
    simp only [rtV2] at e94
    have hr0 : (r : Int) * 4294967296 + L < 18446744073709551616 := by have := HRL.out; have := HLB.out; omega
    have hr1 : (0 : Int) ≤ (r : Int) * 4294967296 := by omega
    refine head_val (.int .u64 ((r : Int) * 4294967296 + L)) ?_ (Below.refl _ _) rfl
    generalize a.eval = ρ at *
    clear hs' hd'
    go_simp
    first | done | exact wrap_u64_in _ (by omega) (by omega)
  · intro vals a w1 hb hs' hd'
    refine want (gd_some rfl (hd' 9 (by decide)).2) ?_
    have e95 : a.eval (.tmp 95) = _ := (hd' 13 (by decide)).1.trans (hd' 13 (by decide)).2
    simp only [rtV2] at e95
    have ec : a.eval (.const (.int .u64 1)) = .int .u64 1 := rfl
    have hr0 : (r : Int) * 4294967296 + L + 1 < 18446744073709551616 := by have := HRL.out; have := HLB.out; omega
    have hr1 : (0 : Int) ≤ (r : Int) * 4294967296 + L := by omega
    refine head_val (.int .u64 ((r : Int) * 4294967296 + L + 1)) ?_ (Below.refl _ _) rfl
    generalize a.eval = ρ at *
    clear hs' hd'
    go_simp
    first | done | exact wrap_u64_in _ (by omega) (by omega)
  · intro vals a w1 hb hs' hd'
    refine want (gd_some rfl (hd' 9 (by decide)).2) ?_
    have e7 : a.eval (.tmp 7) = Value.int .i64 2 := (hs' 7 (by decide)).trans h7
    refine head_val (.int .i64 2) ?_ (Below.refl _ _) rfl
    generalize a.eval = ρ at *
    clear hs' hd'
    go_simp
  · intro vals a w1 hb hs' hd'
    refine want (gd_some rfl (hd' 9 (by decide)).2) ?_
    have e96 : a.eval (.tmp 96) = _ := (hd' 14 (by decide)).1.trans (hd' 14 (by decide)).2
    simp only [rtV2] at e96
    have e97 : a.eval (.tmp 97) = _ := (hd' 15 (by decide)).1.trans (hd' 15 (by decide)).2
    simp only [rtV2] at e97
    have ef : a.eval (.func 63) = .func (.func 63) #[] #[] := rfl
    refine head_call (f := 63) (args := #[.int .u64 ((r : Int) * 4294967296 + L + 1), .int .i64 2]) ?_ ((power_at (r * 4294967296 + L + 1) _ 2 _ (by omega) rfl (by have := HRL.out; have := HLB.out; omega) (by decide) w1).mono fun e w' h => ⟨_, h.1, h.2, rfl⟩)
    generalize a.eval = ρ at *
    clear hs' hd'
    go_simp
  · intro vals a w1 hb hs' hd'
    refine want (gd_some rfl (hd' 9 (by decide)).2) ?_
    have e10 : a.eval (.tmp 10) = Value.pointer (some ⟨D, 0, none⟩) := (hs' 10 (by decide)).trans h10
    have hl := load_wide (block_below' hb HD.out)
    refine head_val (.agg (wideA (digs 4 wt))) ?_ (Below.refl _ _) rfl
    generalize a.eval = ρ at *
    clear hs' hd'
    simp only [execOp, e10, Instr.loadAt, Instr.sureAddr, Sem.run_bind, Sem.run_pure, Result.andThen_ok, hl]
  · intro vals a w1 hb hs' hd'
    refine want (gd_some rfl (hd' 9 (by decide)).2) ?_
    have e98 : a.eval (.tmp 98) = _ := (hd' 16 (by decide)).1.trans (hd' 16 (by decide)).2
    simp only [rtV2] at e98
    have e99 : a.eval (.tmp 99) = _ := (hd' 17 (by decide)).1.trans (hd' 17 (by decide)).2
    simp only [rtV2] at e99
    have ef : a.eval (.func 62) = .func (.func 62) #[] #[] := rfl
    refine head_call (f := 62) (args := #[wideN ((r * 4294967296 + L + 1) ^ 2), wideN wt]) ?_ ((cmp_any ((r * 4294967296 + L + 1) ^ 2) wt (pow_small _ _ (by have := HRL.out; have := HLB.out; omega) (by decide)) HWB.out w1).mono fun e w' h => ⟨_, h.1, h.2, rfl⟩)
    generalize a.eval = ρ at *
    clear hs' hd'
    go_simp
    rfl
  · intro vals a w1 hb hs' hd'
    refine want (gd_some rfl (hd' 9 (by decide)).2) ?_
    have e100 : a.eval (.tmp 100) = _ := (hd' 18 (by decide)).1.trans (hd' 18 (by decide)).2
    simp only [rtV2] at e100
    have ec : a.eval (.const (.int .i64 0)) = .int .i64 0 := rfl
    have hcv := cmpI_gt _ _ HRO2.out
    generalize cmpI _ _ = cv at *
    refine head_val (.bool false) ?_ (Below.refl _ _) rfl
    generalize a.eval = ρ at *
    clear hs' hd'
    go_simp
  · intro vals a w1 hb hs' hd'
    refine want rfl ?_
    have e91 : a.eval (.tmp 91) = _ := (hd' 9 (by decide)).1.trans (hd' 9 (by decide)).2
    simp only [rtV2] at e91
    have e101 : a.eval (.tmp 101) = _ := (hd' 19 (by decide)).1.trans (hd' 19 (by decide)).2
    simp only [rtV2] at e101
    have ec : a.eval (.const (.bool true)) = .bool true := rfl
    refine head_val (.bool false) ?_ (Below.refl _ _) rfl
    generalize a.eval = ρ at *
    clear hs' hd'
    go_simp
  · intro vals wg hbg hall
    exact hQ vals wg (hall 20 (by omega)) hbg
set_option maxRecDepth 100000 in
set_option maxHeartbeats 4000000 in
theorem reg26_3 (r L wt D : Nat) (wf : World) (a : Act) (Q : Exit → Act → World → Prop) (hrl : r ≤ 17) (hLb : L < 4294967296) (hwb : wt < 18446744073709551616 ^ 4) (ho1 : (r * 4294967296 + L) ^ 3 ≤ wt) (ho2 : wt < (r * 4294967296 + L + 1) ^ 3)
    (hd : wf.heap[D]? = some (.cells (wideA (digs 4 wt)) 102 (0, 0))) (hsz : a.tmps.size = 106) (h7 : a.eval (.tmp 7) = .int .i64 3) (h8 : a.eval (.tmp 8) = .int .u64 (L : Int)) (h9 : a.eval (.tmp 9) = .int .u64 (r : Int)) (h10 : a.eval (.tmp 10) = .pointer (some ⟨D, 0, none⟩))
    (hQ : ∀ vals wg, vals 20 = .bool false → Below wf.heap.size wf wg → Q .normal (G.putHeads a ops26.toList vals) wg) :
    (Code.region 26 ops26 true).wp Try.prog Q a wf := by
  have HRL := Lib.hid hrl
  have HLB := Lib.hid hLb
  have HWB := Lib.hid hwb
  have HRO1 := Lib.hid ho1
  have HRO2 := Lib.hid ho2
  have HD := Lib.hid hd
  clear hrl hLb hwb ho1 ho2 hd
  refine G.wp_region_mono (l := ops26.toList) 21 (by kernel_rfl) (by rw [hsz]; kernel_rfl) (fun i v _ => v = rtV3 r L wt i) (fun _ _ _ _ h _ => h) ⟨?_, ?_, ?_, ?_, ?_, ?_, ?_, ?_, ?_, ?_, ?_, ?_, ?_, ?_, ?_, ?_, ?_, ?_, ?_, ?_, ?_, trivial⟩ ?_
  · intro vals a w1 hb hs' hd'
    refine want rfl ?_
    have e9 : a.eval (.tmp 9) = Value.int .u64 (r : Int) := (hs' 9 (by decide)).trans h9
    refine head_val (.int .u64 (r : Int)) ?_ (Below.refl _ _) rfl
    generalize a.eval = ρ at *
    clear hs' hd'
    go_simp
  · intro vals a w1 hb hs' hd'
    refine want rfl ?_
    have e82 : a.eval (.tmp 82) = _ := (hd' 0 (by decide)).1.trans (hd' 0 (by decide)).2
    simp only [rtV3] at e82
    have ec : a.eval (.const (.int .u64 32)) = .int .u64 32 := rfl
    have hr0 : (r : Int) * 4294967296 < 18446744073709551616 := by have := HRL.out; omega
    refine head_val (.int .u64 ((r : Int) * 4294967296)) ?_ (Below.refl _ _) rfl
    generalize a.eval = ρ at *
    clear hs' hd'
    go_simp
    first | done | exact wrap_u64_in _ (by omega) (by omega)
  · intro vals a w1 hb hs' hd'
    refine want rfl ?_
    have e8 : a.eval (.tmp 8) = Value.int .u64 (L : Int) := (hs' 8 (by decide)).trans h8
    refine head_val (.int .u64 (L : Int)) ?_ (Below.refl _ _) rfl
    generalize a.eval = ρ at *
    clear hs' hd'
    go_simp
  · intro vals a w1 hb hs' hd'
    refine want rfl ?_
    have e83 : a.eval (.tmp 83) = _ := (hd' 1 (by decide)).1.trans (hd' 1 (by decide)).2
    simp only [rtV3] at e83
    have e84 : a.eval (.tmp 84) = _ := (hd' 2 (by decide)).1.trans (hd' 2 (by decide)).2
    simp only [rtV3] at e84
    have hr0 : (r : Int) * 4294967296 + L < 18446744073709551616 := by have := HRL.out; have := HLB.out; omega
    have hr1 : (0 : Int) ≤ (r : Int) * 4294967296 := by omega
    refine head_val (.int .u64 ((r : Int) * 4294967296 + L)) ?_ (Below.refl _ _) rfl
    generalize a.eval = ρ at *
    clear hs' hd'
    go_simp
    first | done | exact wrap_u64_in _ (by omega) (by omega)
  · intro vals a w1 hb hs' hd'
    refine want rfl ?_
    have e7 : a.eval (.tmp 7) = Value.int .i64 3 := (hs' 7 (by decide)).trans h7
    refine head_val (.int .i64 3) ?_ (Below.refl _ _) rfl
    generalize a.eval = ρ at *
    clear hs' hd'
    go_simp
  · intro vals a w1 hb hs' hd'
    refine want rfl ?_
    have e85 : a.eval (.tmp 85) = _ := (hd' 3 (by decide)).1.trans (hd' 3 (by decide)).2
    simp only [rtV3] at e85
    have e86 : a.eval (.tmp 86) = _ := (hd' 4 (by decide)).1.trans (hd' 4 (by decide)).2
    simp only [rtV3] at e86
    have ef : a.eval (.func 63) = .func (.func 63) #[] #[] := rfl
    refine head_call (f := 63) (args := #[.int .u64 ((r : Int) * 4294967296 + L), .int .i64 3]) ?_ ((power_at (r * 4294967296 + L) _ 3 _ (by omega) rfl (by have := HRL.out; have := HLB.out; omega) (by decide) w1).mono fun e w' h => ⟨_, h.1, h.2, rfl⟩)
    generalize a.eval = ρ at *
    clear hs' hd'
    go_simp
  · intro vals a w1 hb hs' hd'
    refine want rfl ?_
    have e10 : a.eval (.tmp 10) = Value.pointer (some ⟨D, 0, none⟩) := (hs' 10 (by decide)).trans h10
    have hl := load_wide (block_below' hb HD.out)
    refine head_val (.agg (wideA (digs 4 wt))) ?_ (Below.refl _ _) rfl
    generalize a.eval = ρ at *
    clear hs' hd'
    simp only [execOp, e10, Instr.loadAt, Instr.sureAddr, Sem.run_bind, Sem.run_pure, Result.andThen_ok, hl]
  · intro vals a w1 hb hs' hd'
    refine want rfl ?_
    have e87 : a.eval (.tmp 87) = _ := (hd' 5 (by decide)).1.trans (hd' 5 (by decide)).2
    simp only [rtV3] at e87
    have e88 : a.eval (.tmp 88) = _ := (hd' 6 (by decide)).1.trans (hd' 6 (by decide)).2
    simp only [rtV3] at e88
    have ef : a.eval (.func 62) = .func (.func 62) #[] #[] := rfl
    refine head_call (f := 62) (args := #[wideN ((r * 4294967296 + L) ^ 3), wideN wt]) ?_ ((cmp_any ((r * 4294967296 + L) ^ 3) wt (pow_small _ _ (by have := HRL.out; have := HLB.out; omega) (by decide)) HWB.out w1).mono fun e w' h => ⟨_, h.1, h.2, rfl⟩)
    generalize a.eval = ρ at *
    clear hs' hd'
    go_simp
    rfl
  · intro vals a w1 hb hs' hd'
    refine want rfl ?_
    have e89 : a.eval (.tmp 89) = _ := (hd' 7 (by decide)).1.trans (hd' 7 (by decide)).2
    simp only [rtV3] at e89
    have ec : a.eval (.const (.int .i64 0)) = .int .i64 0 := rfl
    have hcv := cmpI_le _ _ HRO1.out
    generalize cmpI _ _ = cv at *
    refine head_val (.bool false) ?_ (Below.refl _ _) rfl
    generalize a.eval = ρ at *
    clear hs' hd'
    go_simp
  · intro vals a w1 hb hs' hd'
    refine want rfl ?_
    have e90 : a.eval (.tmp 90) = _ := (hd' 8 (by decide)).1.trans (hd' 8 (by decide)).2
    simp only [rtV3] at e90
    refine head_val (.bool false) ?_ (Below.refl _ _) rfl
    generalize a.eval = ρ at *
    clear hs' hd'
    go_simp
  · intro vals a w1 hb hs' hd'
    refine want (gd_some rfl (hd' 9 (by decide)).2) ?_
    have e9 : a.eval (.tmp 9) = Value.int .u64 (r : Int) := (hs' 9 (by decide)).trans h9
    refine head_val (.int .u64 (r : Int)) ?_ (Below.refl _ _) rfl
    generalize a.eval = ρ at *
    clear hs' hd'
    go_simp
  · intro vals a w1 hb hs' hd'
    refine want (gd_some rfl (hd' 9 (by decide)).2) ?_
    have e92 : a.eval (.tmp 92) = _ := (hd' 10 (by decide)).1.trans (hd' 10 (by decide)).2
    simp only [rtV3] at e92
    have ec : a.eval (.const (.int .u64 32)) = .int .u64 32 := rfl
    have hr0 : (r : Int) * 4294967296 < 18446744073709551616 := by have := HRL.out; omega
    refine head_val (.int .u64 ((r : Int) * 4294967296)) ?_ (Below.refl _ _) rfl
    generalize a.eval = ρ at *
    clear hs' hd'
    go_simp
    first | done | exact wrap_u64_in _ (by omega) (by omega)
  · intro vals a w1 hb hs' hd'
    refine want (gd_some rfl (hd' 9 (by decide)).2) ?_
    have e8 : a.eval (.tmp 8) = Value.int .u64 (L : Int) := (hs' 8 (by decide)).trans h8
    refine head_val (.int .u64 (L : Int)) ?_ (Below.refl _ _) rfl
    generalize a.eval = ρ at *
    clear hs' hd'
    go_simp
  · intro vals a w1 hb hs' hd'
    refine want (gd_some rfl (hd' 9 (by decide)).2) ?_
    have e93 : a.eval (.tmp 93) = _ := (hd' 11 (by decide)).1.trans (hd' 11 (by decide)).2
    simp only [rtV3] at e93
    have e94 : a.eval (.tmp 94) = _ := (hd' 12 (by decide)).1.trans (hd' 12 (by decide)).2
    simp only [rtV3] at e94
    have hr0 : (r : Int) * 4294967296 + L < 18446744073709551616 := by have := HRL.out; have := HLB.out; omega
    have hr1 : (0 : Int) ≤ (r : Int) * 4294967296 := by omega
    refine head_val (.int .u64 ((r : Int) * 4294967296 + L)) ?_ (Below.refl _ _) rfl
    generalize a.eval = ρ at *
    clear hs' hd'
    go_simp
    first | done | exact wrap_u64_in _ (by omega) (by omega)
  · intro vals a w1 hb hs' hd'
    refine want (gd_some rfl (hd' 9 (by decide)).2) ?_
    have e95 : a.eval (.tmp 95) = _ := (hd' 13 (by decide)).1.trans (hd' 13 (by decide)).2
    simp only [rtV3] at e95
    have ec : a.eval (.const (.int .u64 1)) = .int .u64 1 := rfl
    have hr0 : (r : Int) * 4294967296 + L + 1 < 18446744073709551616 := by have := HRL.out; have := HLB.out; omega
    have hr1 : (0 : Int) ≤ (r : Int) * 4294967296 + L := by omega
    refine head_val (.int .u64 ((r : Int) * 4294967296 + L + 1)) ?_ (Below.refl _ _) rfl
    generalize a.eval = ρ at *
    clear hs' hd'
    go_simp
    first | done | exact wrap_u64_in _ (by omega) (by omega)
  · intro vals a w1 hb hs' hd'
    refine want (gd_some rfl (hd' 9 (by decide)).2) ?_
    have e7 : a.eval (.tmp 7) = Value.int .i64 3 := (hs' 7 (by decide)).trans h7
    refine head_val (.int .i64 3) ?_ (Below.refl _ _) rfl
    generalize a.eval = ρ at *
    clear hs' hd'
    go_simp
  · intro vals a w1 hb hs' hd'
    refine want (gd_some rfl (hd' 9 (by decide)).2) ?_
    have e96 : a.eval (.tmp 96) = _ := (hd' 14 (by decide)).1.trans (hd' 14 (by decide)).2
    simp only [rtV3] at e96
    have e97 : a.eval (.tmp 97) = _ := (hd' 15 (by decide)).1.trans (hd' 15 (by decide)).2
    simp only [rtV3] at e97
    have ef : a.eval (.func 63) = .func (.func 63) #[] #[] := rfl
    refine head_call (f := 63) (args := #[.int .u64 ((r : Int) * 4294967296 + L + 1), .int .i64 3]) ?_ ((power_at (r * 4294967296 + L + 1) _ 3 _ (by omega) rfl (by have := HRL.out; have := HLB.out; omega) (by decide) w1).mono fun e w' h => ⟨_, h.1, h.2, rfl⟩)
    generalize a.eval = ρ at *
    clear hs' hd'
    go_simp
  · intro vals a w1 hb hs' hd'
    refine want (gd_some rfl (hd' 9 (by decide)).2) ?_
    have e10 : a.eval (.tmp 10) = Value.pointer (some ⟨D, 0, none⟩) := (hs' 10 (by decide)).trans h10
    have hl := load_wide (block_below' hb HD.out)
    refine head_val (.agg (wideA (digs 4 wt))) ?_ (Below.refl _ _) rfl
    generalize a.eval = ρ at *
    clear hs' hd'
    simp only [execOp, e10, Instr.loadAt, Instr.sureAddr, Sem.run_bind, Sem.run_pure, Result.andThen_ok, hl]
  · intro vals a w1 hb hs' hd'
    refine want (gd_some rfl (hd' 9 (by decide)).2) ?_
    have e98 : a.eval (.tmp 98) = _ := (hd' 16 (by decide)).1.trans (hd' 16 (by decide)).2
    simp only [rtV3] at e98
    have e99 : a.eval (.tmp 99) = _ := (hd' 17 (by decide)).1.trans (hd' 17 (by decide)).2
    simp only [rtV3] at e99
    have ef : a.eval (.func 62) = .func (.func 62) #[] #[] := rfl
    refine head_call (f := 62) (args := #[wideN ((r * 4294967296 + L + 1) ^ 3), wideN wt]) ?_ ((cmp_any ((r * 4294967296 + L + 1) ^ 3) wt (pow_small _ _ (by have := HRL.out; have := HLB.out; omega) (by decide)) HWB.out w1).mono fun e w' h => ⟨_, h.1, h.2, rfl⟩)
    generalize a.eval = ρ at *
    clear hs' hd'
    go_simp
    rfl
  · intro vals a w1 hb hs' hd'
    refine want (gd_some rfl (hd' 9 (by decide)).2) ?_
    have e100 : a.eval (.tmp 100) = _ := (hd' 18 (by decide)).1.trans (hd' 18 (by decide)).2
    simp only [rtV3] at e100
    have ec : a.eval (.const (.int .i64 0)) = .int .i64 0 := rfl
    have hcv := cmpI_gt _ _ HRO2.out
    generalize cmpI _ _ = cv at *
    refine head_val (.bool false) ?_ (Below.refl _ _) rfl
    generalize a.eval = ρ at *
    clear hs' hd'
    go_simp
  · intro vals a w1 hb hs' hd'
    refine want rfl ?_
    have e91 : a.eval (.tmp 91) = _ := (hd' 9 (by decide)).1.trans (hd' 9 (by decide)).2
    simp only [rtV3] at e91
    have e101 : a.eval (.tmp 101) = _ := (hd' 19 (by decide)).1.trans (hd' 19 (by decide)).2
    simp only [rtV3] at e101
    have ec : a.eval (.const (.bool true)) = .bool true := rfl
    refine head_val (.bool false) ?_ (Below.refl _ _) rfl
    generalize a.eval = ρ at *
    clear hs' hd'
    go_simp
  · intro vals wg hbg hall
    exact hQ vals wg (hall 20 (by omega)) hbg
end Go.Proofs.Ytdecbimklomdjaa
