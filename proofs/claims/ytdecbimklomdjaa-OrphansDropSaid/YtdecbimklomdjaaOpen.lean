/- An array of 32 bytes that came in, opened. -/
import Derived.Test.YtdecbimklomdjaaAlive
import Derived.Test.YtdecbimklomdjaaRows
import Derived.WalkKit
import Derived.ProofKit
import Derived.OpenShut
import Derived.Below
namespace Go.Proofs.Ytdecbimklomdjaa
open Go Go.ChangeShapes Go.WideShapes Go.ChangeAt Go.RowKit
theorem cells28 : Try.prog.cellsOf 28 = 32 := by kernel_rfl
theorem cells5 : Try.prog.cellsOf 5 = 1 := by kernel_rfl
def byteOf : Value → UInt8
  | .int _ n => UInt8.ofNat n.toNat
  | _ => 0
set_option maxRecDepth 100000 in
theorem open_hash {H : Type} {enc : TypeId × Value → H} {W : World} {base : Nat} {sp : Nat → Bool} {held : Bool} {r : Reach} {b0 : Nat} {v : Value} {d : DataW H} {ps : List MemPlace}
    (hval : Value.okWide Try.prog W r b0 28 v) (hd : DataW.Trod enc Try.prog W base sp held 28 v d ps) : ∃ l : List UInt8, l.length = 32 ∧ v = .agg (bytesA l) := by
  obtain ⟨xs, rfl, hsz⟩ : ∃ xs : Array Value, v = .agg xs ∧ xs.size = 32 := by
    unfold Value.okWide at hval
    rw [Try.underlying28] at hval
    obtain ⟨cs, h1, h2, _⟩ := hval
    exact ⟨cs, h1, h2.trans cells28⟩
  obtain ⟨fuel, hf⟩ := hd
  obtain ⟨ys, m, _, _, _, hl, hel⟩ := DataW.trod_array Try.underlying28 hf
  have hcell : ∀ i, i < 32 → ∃ n, xs.toList[i]? = some (.int .u8 n) ∧ 0 ≤ n ∧ n ≤ 255 := by
    intro i hi
    have h := hel i hi
    rw [cells5, Nat.mul_one, List.getElem?_eq_getElem (by omega)] at h
    obtain ⟨n, h1, _, h3⟩ := DataW.trod_int Try.underlying5 h
    have h4 : ((xs.toList.drop i).take 1)[0]? = some (.int .u8 n) := by
      have : (Value.agg xs).cells.toList = xs.toList := rfl
      rw [← this, h1]; rfl
    refine ⟨n, by simpa using h4, by simpa [Lit.wf, IntKind.min, IntKind.max, IntKind.signed, IntKind.bits] using h3⟩
  refine ⟨xs.toList.map byteOf, by simp [hsz], ?_⟩
  congr 1
  apply Array.ext'
  apply List.ext_getElem?
  intro i
  unfold bytesA
  rw [List.getElem?_map, List.getElem?_map]
  by_cases hi : i < 32
  · obtain ⟨n, h1, h2, h3⟩ := hcell i hi
    rw [h1]
    show some (Value.int .u8 n) = some (Value.int .u8 (b8 (UInt8.ofNat n.toNat)))
    unfold b8
    rw [UInt8.toNat_ofNat', Nat.mod_eq_of_lt (by omega)]
    congr 2
    omega
  · rw [List.getElem?_eq_none (by simp [hsz]; omega)]; rfl
end Go.Proofs.Ytdecbimklomdjaa
