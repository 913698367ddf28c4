/- math/bits.RotateLeft32 and sha.word compute what the plain words of Sha say. -/
import Derived.Test.YtdecbimklomdjaaProg
import Derived.Test.YtdecbimklomdjaaBase
import Derived.WalkLawsBesides
import Derived.WalkSpells
import Derived.Deep.QuietTactic
import Derived.BigQuiet
namespace Go.Proofs.Ytdecbimklomdjaa
open Go.RowKit
attribute [local go_sem] w32_div8 w32_div1024 w32_mul256 w32_add w32_or w32_and w32_xor w32_not w32_not' w32_byte

theorem ret_u32 {x y : Sha.W} (h : x = y) : Ending.returned (.int .u32 (w32 x)) = .returned (.int .u32 (w32 y)) := by rw [h]

theorem rot_any (x : Sha.W) (k : Int) (n : Nat) (h1 : 1 ≤ n) (h2 : n < 32) (hk : k = -(n : Int)) (w : World) :
    Calls Try.prog 116 #[.int .u32 (w32 x), .int .i64 k] w fun e w' => e = .returned (.int .u32 (w32 (Sha.rotr x n))) ∧ w = w' := by
  have hb : bits BinOp.and IntKind.u64 (IntKind.u64.wrap k) 31 = ((32 - n : Nat) : Int) := by
    subst hk
    have hall : ∀ n : Fin 32, 1 ≤ n.1 → bits BinOp.and IntKind.u64 (IntKind.u64.wrap (-(n.1 : Int))) 31 = ((32 - n.1 : Nat) : Int) := by decide
    exact hall ⟨n, h2⟩ h1
  have hl := fun w => shift_shl (P := Try.prog) w x .u64 (32 - n) (by omega)
  have hr := w32_div x n
  have hs : IntKind.u64.wrap (32 - ((32 - n : Nat) : Int)) = (n : Int) := by simp [IntKind.wrap, IntKind.bits, IntKind.signed]; omega
  generalize ((32 - n : Nat) : Int) = m at *
  clear hk
  go_enter Try.func116, Try.ntmps116
  go_wp2
  go_ret
  exact ⟨ret_u32 rfl, rfl⟩

theorem word_step (l : List UInt8) (k : Nat) (h : k < l.length) : (l.take (k + 1)).foldl Sha.shiftIn 0 = Sha.shiftIn ((l.take k).foldl Sha.shiftIn 0) (l.getD k 0) := by
  rw [List.take_succ_eq_append_getElem h, List.foldl_append]
  simp [List.getD_eq_getElem?_getD, h]

theorem word_any (b o len cap : Nat) (l : List UInt8) (hll : 4 ≤ l.length) (hl : 4 ≤ len) (hlc : len ≤ cap) (hm : cap ≤ maxLen) (w : World)
    (hc : ∀ i, i < 4 → w.cell? ⟨b, o + i, none⟩ = some (V8 (l.getD i 0))) :
    Calls Try.prog 115 #[.slice (some ⟨b, o, none⟩) len cap] w fun e w' => e = .returned (V32 (Sha.word l)) ∧ w = w' := by
  unfold maxLen at hm
  have HC := Lib.hid hc
  clear hc
  go_enter Try.func115, Try.ntmps115
  go_wp2
  go_loop [3, 5, 9] (fun n _ i => ∃ k : Nat, k ≤ 4 ∧ i = .int .i64 k ∧ n = V32 ((l.take k).foldl Sha.shiftIn 0)) (fun _ _ i => 4 - (intOf i).toNat)
  case atStart => exact ⟨0, by omega, rfl, rfl⟩
  case round =>
    obtain ⟨k, hk, rfl, rfl⟩ := hrel
    by_cases hlt : k < 4
    · have hcell := HC.out k hlt
      have hst := Lib.hid (word_step l k (by omega))
      go_wp2
      go_round
      case rel => exact ⟨k + 1, by omega, by go_num, by rw [hst.out]; rfl⟩
      case measure => simp [intOf]; omega
    · go_wp2
      go_ret
      exact ⟨ret_u32 (by rw [show k = 4 from by omega]; rfl), rfl⟩
end Go.Proofs.Ytdecbimklomdjaa
