/- purserref04: the tables, and Words. -/
import Derived.Test.YtdecbimklomdjaaNmA
import Derived.Test.YtdecbimklomdjaaShaRoots
namespace Go.Proofs.Ytdecbimklomdjaa
open Go Go.RowKit Go.Shelf
set_option maxRecDepth 100000 in
theorem words_same (g1 c1 g2 c2 : Nat) (l : List Sha.W) (w : World) (hl : l.length ≤ 64) (h1 : WordsIn w g1 l) (h2 : WordsIn w g2 l) :
    Calls Try.prog 68 #[.slice (some ⟨g1, 0, none⟩) l.length c1, .slice (some ⟨g2, 0, none⟩) l.length c2] w fun e w' => e = .returned (.bool true) ∧ Below w.heap.size w w' := by
  have HC1 := Lib.hid h1.2
  have HC2 := Lib.hid h2.2
  obtain ⟨n, hn⟩ : ∃ n, n = l.length := ⟨_, rfl⟩
  have HN := Lib.hid hn
  rw [← hn] at hl
  rw [← hn]
  clear h1 h2 hn
  go_enter Try.func68, Try.ntmps68
  go_wp2_with fail
  go_loopw [5] (fun i wr => ∃ k q : Nat, k ≤ n ∧ i = .int .i64 k ∧ wr = w.drewN q) (fun i _ => n - (intOf i).toNat)
  case atStart => exact ⟨0, 0, by omega, rfl, rfl⟩
  case round =>
    obtain ⟨k, q, hk, rfl, rfl⟩ := hrel
    by_cases hlt : k < n
    · have hlti : (k : Int) < n := by omega
      have c1 : w.cell? ⟨g1, k, none⟩ = some (.int .u32 (w32 (l.getD k 0))) := HC1.out k (by rw [← HN.out]; exact hlt)
      have c2 : w.cell? ⟨g2, k, none⟩ = some (.int .u32 (w32 (l.getD k 0))) := HC2.out k (by rw [← HN.out]; exact hlt)
      obtain ⟨x, hx⟩ : ∃ x, x = w32 (l.getD k 0) := ⟨_, rfl⟩
      rw [← hx] at c1 c2
      clear hx
      go_wp2_with fail
      go_quiet (fail)
      go_wp2_with fail
      exact ⟨⟨k + 1, q + nq, by omega, by go_num, rfl⟩, by simp [intOf]; omega⟩
    · have : k = n := by omega
      subst this
      go_wp2_with fail
      go_ret
      exact ⟨rfl, rfl, rfl, rfl, Nat.le_refl _, fun _ _ => rfl⟩
theorem words_get (l : List Sha.W) (j : Nat) (h : j < l.length) : (wordsA l)[j]? = some (V32 (l.getD j 0)) := by
  unfold wordsA
  rw [List.getElem?_toArray, List.getElem?_map, List.getD, List.getElem?_eq_getElem h]; rfl
theorem wordsIn_new (w : World) (l : List Sha.W) (t : TypeId) : WordsIn (w.alloc (.cells (wordsA l) t)) w.heap.size l :=
  ⟨by simp, fun j hj => (cell_of_row _ _ _ _ _ _ (heap_alloc_new w _)).trans (words_get l j hj)⟩
theorem ref_square (w : World) : Calls Try.prog 69 #[] w fun e w' => ∃ g c, e = .returned (.slice (some ⟨g, 0, none⟩) 8 c) ∧ WordsIn w' g Sha.iv.list ∧ Below w.heap.size w w' := by
  go_enter Try.func69, Try.ntmps69
  go_wp2_with fail
  go_ret
  exact ⟨_, _, rfl, wordsIn_new w Sha.iv.list 55, (Below.refl _ _).alloc (Nat.le_refl _) _⟩
set_option maxRecDepth 100000 in
theorem ref_cube (w : World) : Calls Try.prog 70 #[] w fun e w' => ∃ g c, e = .returned (.slice (some ⟨g, 0, none⟩) 64 c) ∧ WordsIn w' g Sha.K ∧ Below w.heap.size w w' := by
  go_enter Try.func70, Try.ntmps70
  go_wp2_with fail
  go_ret
  exact ⟨_, _, rfl, wordsIn_new w Sha.K 55, (Below.refl _ _).alloc (Nat.le_refl _) _⟩
end Go.Proofs.Ytdecbimklomdjaa
