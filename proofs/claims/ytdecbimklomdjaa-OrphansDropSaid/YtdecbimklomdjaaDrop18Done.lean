/- purserlaw27.OrphansDrop answers true for whatever places of parents and whatever number, and what it was given reads as it did. No conditions. -/
import Derived.Test.YtdecbimklomdjaaDrop18
import Derived.Test.YtdecbimklomdjaaOpen
import Derived.Test.YtdecbimklomdjaaRows
import Derived.WalkKit
import Derived.ProofKit
import Derived.OpenShut
import Derived.ChangeOld
import Derived.Below
import Derived.Deep.Slices
namespace Go.Proofs.Ytdecbimklomdjaa.Drop18Done
open Go Go.ChangeShapes Go.WideShapes Go.ChangeAt Go.RowKit

theorem own : ownKnob Try.prog.godebug = none := by kernel_rfl
theorem laidOut : laidOutB Try.prog = true := by kernel_rfl
theorem same {W w' : World} (h : Left W w') {p : MemPlace} (hp : p.block < W.heap.size) : W.sameAt w' p := by
  cases p with
  | cell b o => exact World.cell?_of_block (w := W) (h.block b hp)
  | map b => exact h.block b hp
set_option maxRecDepth 100000 in
/-- A slice of bytes that came in, opened. -/
theorem open_bytes {H : Type} {enc : TypeId × Value → H} {W : World} {r : Reach} {b0 : Nat} {v : Value} {d : DataW H} {ps : List MemPlace}
    (hval : Value.okWide Try.prog W r b0 25 v) (hd : DataW.Trod enc Try.prog W 0 (fun _ => true) true 25 v d ps) : ∃ l : List UInt8, BytesAt W v l := by
  obtain ⟨a, len, cap, rfl⟩ := okWide_slice Try.underlying25 hval
  obtain ⟨fuel, hf⟩ := hd
  rcases Deep.open_slice1 Try.underlying25 cells5 hf with ⟨h, _⟩ | ⟨a', len', cap', m, n, V, D, Pl, h, _, hlc, hcm, hm, _, hx⟩
  · refine ⟨[], .inl ⟨?_, rfl⟩⟩
    have : [Value.slice a len cap] = [.slice none 0 0] := h
    injection this
  · have : [Value.slice a len cap] = [.slice (some a') len' cap'] := h
    injection this with this _
    injection this with h1 h2 h3
    subst h1
    subst h2
    subst h3
    have hhas : W.has Try.prog r b0 a' 5 cap := by
      unfold Value.okWide Cell.okWide Cell.ok at hval
      rw [Try.underlying25] at hval
      exact hval.2.2
    obtain ⟨_, hspot, row, cells, hshape, _⟩ := hhas
    obtain ⟨b, o, s⟩ := a'
    have hs : s = none := hspot
    subst hs
    have hlt : b < W.heap.size := by
      unfold World.shape? at hshape
      cases hb : W.heap[b]? with
      | none => rw [hb] at hshape; cases hshape
      | some ob => exact (Array.getElem?_eq_some_iff.1 hb).1
    have hm' : m = cap := by simpa using hm
    have hcell : ∀ i, i < len → ∃ k : Int, V i = .int .u8 k ∧ 0 ≤ k ∧ k ≤ 255 ∧ W.cell? ⟨b, o + i, none⟩ = some (V i) := by
      intro i hi
      obtain ⟨h1, h2⟩ := hx i (by omega)
      obtain ⟨k, h3, _, h4⟩ := DataW.trod_int Try.underlying5 h2
      have h5 : V i = .int .u8 k := by simpa using h3
      have h6 : 0 ≤ k ∧ k ≤ 255 := by simpa [Lit.wf, IntKind.min, IntKind.max, IntKind.signed, IntKind.bits] using h4
      refine ⟨k, h5, h6.1, h6.2, ?_⟩
      rw [← h1]
      unfold Addr.add
      split
      · rename_i h0; rw [h0]; rfl
      · rfl
    refine ⟨(List.range len).map fun i => byteOf (V i), .inr ⟨b, o, cap, by simp, by simpa using hlc, hcm, hlt, ?_⟩⟩
    intro j u hu
    have hj : j < len := by have := (List.getElem?_eq_some_iff.1 hu).1; simpa using this
    obtain ⟨k, h1, h2, h3, h4⟩ := hcell j hj
    rw [h4]
    have : u = V8 (byteOf (V j)) := by
      rw [List.getElem?_map, List.getElem?_map, List.getElem?_range hj] at hu
      simpa using hu.symm
    rw [this, h1]
    show some (Value.int .u8 k) = some (Value.int .u8 (b8 (UInt8.ofNat k.toNat)))
    unfold b8
    rw [UInt8.toNat_ofNat', Nat.mod_eq_of_lt (by omega)]
    congr 2
    omega
set_option maxRecDepth 100000 in
theorem lifted (os : Os) (started : os.Started) (H : Type) (enc : TypeId × Value → H) :
    ReturnsInHanded {} Try.checked os 18 .any (Rows.orphansDropSpec.pre6 enc Try.prog Try.f18 Rows.orphansDropRow.domain false) (Rows.orphansDropSpec.post enc Try.prog Try.f18 false true false false) := by
  refine returnsInHanded_of_change (C := Try.checked) own started (by kernel_rfl) Try.func18
    (ChangeSpec.witness6 (enc := enc) (C := Try.checked) false ⟨#[], #[.slice none 0 0, .int .u8 0], []⟩ 8 (by kernel_rfl) (by kernel_rfl) (by kernel_rfl) (by kernel_rfl)) ?_
  intro W base args ds gs before hval0 hW hcnd _
  have hval : ∀ (j : Nat) t v, Try.f18.params[j]? = some t → args[j]? = some v → Value.okWide Try.prog W .any base t v := hval0
  have hW' := hW
  obtain ⟨p, q, hA0, hV, rfl, hfz, hnd⟩ := hW
  have hA : DataW.TrodAll enc Try.prog W 0 (fun _ => true) true Try.f18.params.toList args.toList ds p := hA0
  rw [Try.params18] at hA hval
  obtain ⟨v0, vs0, d0, ds0, p0, q0, hargs, rfl, rfl, h0, r0⟩ := trodAll_cons hA
  obtain ⟨v1, vs1, d1, ds1, p1, q1, rfl, rfl, rfl, h1, r1⟩ := trodAll_cons r0
  obtain ⟨rfl, rfl, rfl⟩ := trodAll_nil r1
  obtain rfl : args = #[v0, v1] := by cases args; simp_all
  obtain ⟨rfl, rfl⟩ := trodVars_none hV
  have k0 := h0
  have lt0 : ∀ x ∈ p0, x.block < W.heap.size := by obtain ⟨m, hm⟩ := k0; exact DataW.trod_lt m _ _ _ hm
  obtain ⟨l0, e0⟩ := open_bytes (hval 0 25 v0 rfl rfl) h0
  obtain ⟨a1, rfl, rfl, rfl, w1⟩ := open_int Try.underlying5 (hval 1 5 v1 rfl rfl) h1
  have g1 : 0 ≤ a1 ∧ a1 ≤ 255 := by simpa [Lit.wf, IntKind.min, IntKind.max, IntKind.signed, IntKind.bits] using w1
  obtain ⟨n1, rfl⟩ : ∃ n : Nat, a1 = n := ⟨a1.toNat, by omega⟩
  clear hA0 hval0
  refine (drop18_any v0 l0 n1 (by omega) W e0).mono fun e W' ⟨he, bel⟩ => ?_
  subst he
  exact ⟨_, rfl, _, _, _, [], _, [], hW', trodAll_mk1 (shut_bool Try.underlying4 _), (trodAll_cons_mk (WideElems.Trod_stays laidOut (by kernel_rfl) (of_decide_eq_true (by kernel_rfl)) k0 (fun x hx => same bel (lt0 x hx)) (fun x hx => by simpa using lt0 x hx)) (trodAll_cons_mk (shut_int Try.underlying5 w1) trodAll_mk0)), rfl, bel.frame _, fun h => by cases h⟩

theorem over : Rows.orphansDropRow.holds Try.pinned (OpenSpec.ofChange Rows.orphansDropSpec) :=
  OpenClaim.holds_of_wide 18 Try.f18 rfl rfl rfl rfl rfl rfl rfl ⟨rfl, rfl, rfl, rfl, rfl⟩ rfl rfl rfl rfl rfl (by kernel_rfl) Try.func18 (by kernel_rfl)
    (of_decide_eq_true (by kernel_rfl)) (by unfold Func.isWrapper; first | (rw [if_pos (by decide +kernel)]; kernel_rfl) | (rw [if_neg (by decide +kernel)]; exact ⟨rfl, rfl⟩))
    (fun os started H enc _ => lifted os started H enc)

/-- The statement. -/
theorem proved : Rows.OrphansDropSaid := over
#print axioms proved
end Go.Proofs.Ytdecbimklomdjaa.Drop18Done
