/- A range over a function under the wide fence: the loop's record laid, a round, and what is asked of the one call. -/
import Derived.RangeFuncNested
import Derived.RangeFuncBound
import Derived.RangeFuncCalls
namespace Go.Proofs.Ytdecbimklomdjaa
open Go Go.RowKit

theorem wpIn_rangeFunc_wide {P : Program} {g : Operand} {ps : Array Tmp} {assign body : Code} {Q : Exit → Act → World → Prop} {a : Act} {w : World} {gf : Nat} {lb : Array Value}
    (hg : a.eval g = .func (.func gf) #[] lb) (eg : ∀ args w, (callFunc gf args).run P w = .ok (.enter gf args) w)
    (h : ∀ (rec : LoopState → Option Code → Loop), (∃ fn, ∀ st pe, rec st pe = { state := st, pending := pe, fn, tmps := a.tmps, params := ps, assign, body, defers := w.heap.size }) →
      CallsIn Fence.wide 0 P gf (#[.func (.yield (w.heap.size + 1)) #[] #[]] ++ lb) ((w.alloc (.deferred (some []))).alloc (.loop (rec .ready none)))
        (fun e W' => (∃ v, e = .returned v) ∧ ∃ st pe, st ≠ .busy ∧ W'.heap[w.heap.size + 1]? = some (.loop (rec st pe)) ∧
          (match pe with
            | none => Q .normal { a with defers := { target := .collected w.heap.size, args := #[] } :: a.defers } (W'.putObj (w.heap.size + 1) (.loop (rec .exhausted none)))
            | some c => c.wpIn Fence.wide 0 P Q { a with defers := { target := .collected w.heap.size, args := #[] } :: a.defers } (W'.putObj (w.heap.size + 1) (.loop (rec .exhausted (some c))))))) :
    (Code.rangeFunc g ps assign body).wpIn Fence.wide 0 P Q a w := by
  refine wpIn_rangeFunc ?_
  intro fn _
  obtain ⟨rec, hrec⟩ : ∃ rec : LoopState → Option Code → Loop, rec = fun st pe => { state := st, pending := pe, fn, tmps := a.tmps, params := ps, assign, body, defers := w.heap.size } := ⟨_, rfl⟩
  refine ⟨w.heap.size + 1, [{ target := .collected w.heap.size, args := #[] }], (w.alloc (.deferred (some []))).alloc (.loop (rec .ready none)), { target := .fn (.func gf) lb, args := #[.func (.yield (w.heap.size + 1)) #[] #[]] }, (w.alloc (.deferred (some []))).alloc (.loop (rec .ready none)), gf,
    #[.func (.yield (w.heap.size + 1)) #[] #[]] ++ lb, (w.alloc (.deferred (some []))).alloc (.loop (rec .ready none)), ?_, ?_, fun _ _ => trivial, ?_, fun h => (by simp [Fence.wide] at h), ?_⟩
  · rw [hrec]; exact run_enterLoop_outer _ _ _ _ _
  · simp only [resolve, hg]
    simp [go_sem]
  · simp [invoke, go_sem, eg]
  · refine (h rec ⟨fn, fun st pe => by rw [hrec]⟩).mono ?_
    rintro e W' ⟨⟨v, rfl⟩, st, pe, hst, hl, hq⟩
    have hend := run_endLoop (P := P) hl (by rw [hrec]; exact hst)
    rw [hrec] at hend hq
    refine ⟨pe, _, hend, ?_⟩
    cases pe with
    | none => exact hq
    | some c => exact hq

/-- How a round's body may be left: what is asked then. -/
def roundEnd (l : Nat) (rec : LoopState → Option Code → Loop) (R : Ending → World → Prop) : Exit → Act → World → Prop
  | .normal, _, W => W.heap[l]? = some (.loop (rec .busy none)) ∧ R (.returned (.bool true)) (W.putObj l (.loop (rec .ready none)))
  | .ret, _, W => W.heap[l]? = some (.loop (rec .busy none)) ∧ R (.returned (.bool false)) (W.putObj l (.loop (rec .done (some .ret))))
  | .exit id, _, W => W.heap[l]? = some (.loop (rec .busy none)) ∧ R (.returned (.bool false)) (W.putObj l (.loop (rec .done (some (.exit id)))))
  | _, _, _ => False

theorem yieldAt_wide {P : Program} {l : Nat} {fn : FuncId} {t0 : Array Value} {ps : Array Tmp} {assign body : Code} {D : Nat} {rec : LoopState → Option Code → Loop}
    (hrec : ∀ st pe, rec st pe = { state := st, pending := pe, fn, tmps := t0, params := ps, assign, body, defers := D })
    {args : Array Value} {W : World} {R : Ending → World → Prop} (hl : W.heap[l]? = some (.loop (rec .ready none))) (hs : args.size = ps.size)
    (ha : assign.wpIn (Fence.wide.inRound l) 0 P (Exit.then (fun a₁ w₁ => w₁ = W ∧ body.wpIn (Fence.wide.inRound l) 0 P (roundEnd l rec R) a₁ (W.putObj l (.loop (rec .busy none)))) (fun _ _ _ => False))
      { tmps := (ps.zip args).foldl (fun t (p, v) => t.setIfInBounds p v) t0, defers := [] } W) :
    YieldAt Fence.wide 0 P l args W R := by
  have hy := run_yield (P := P) (args := args) hl (by rw [hrec]; exact hs)
  rw [hrec] at hy
  have hbr := run_beginRound (P := P) hl (by rw [hrec])
  rw [hrec] at hbr
  refine ⟨fn, _, assign, body, hy, roundIn_of_wpIn trivial (wpIn_mono ha ?_)⟩
  intro e0 a0 w0 h0
  cases e0 with
  | exit id => exact h0.elim
  | goto t => exact h0.elim
  | ret => exact h0.elim
  | panic ch => exact h0.elim
  | outgrown => exact h0.elim
  | normal =>
  obtain ⟨rfl, hb⟩ := h0
  refine ⟨_, hbr, ?_⟩
  rw [hrec] at hb
  refine wpIn_mono hb ?_
  intro e a2 W2 hp
  have fin : ∀ jump, W2.heap[l]? = some (.loop (rec .busy none)) → (Instr.endRound l jump).run P W2 = .ok (.bool jump.isNone) (W2.putObj l (.loop (rec (if jump.isNone then .ready else .done) jump))) := fun jump h => by
    have := run_endRound (P := P) jump h
    rw [hrec] at this ⊢
    exact this
  cases e with
  | normal => exact ⟨_, _, fin none hp.1, hp.2⟩
  | ret => exact ⟨_, _, fin (some .ret) hp.1, hp.2⟩
  | exit id => exact ⟨_, _, fin (some (.exit id)) hp.1, hp.2⟩
  | goto t => exact hp.elim
  | panic ch => exact hp.elim
  | outgrown => exact hp.elim
/-- The statement, in a plain walk. -/
theorem wp_rangeFunc {P : Program} {g : Operand} {ps : Array Tmp} {assign body : Code} {Q : Exit → Act → World → Prop} {a : Act} {w : World} {gf : Nat} {lb : Array Value}
    (hg : a.eval g = .func (.func gf) #[] lb) (eg : ∀ args w, (callFunc gf args).run P w = .ok (.enter gf args) w)
    (h : ∀ (rec : LoopState → Option Code → Loop), (∃ fn, ∀ st pe, rec st pe = { state := st, pending := pe, fn, tmps := a.tmps, params := ps, assign, body, defers := w.heap.size }) →
      CallsIn Fence.wide 0 P gf (#[.func (.yield (w.heap.size + 1)) #[] #[]] ++ lb) ((w.alloc (.deferred (some []))).alloc (.loop (rec .ready none)))
        (fun e W' => (∃ v, e = .returned v) ∧ ∃ st pe, st ≠ .busy ∧ W'.heap[w.heap.size + 1]? = some (.loop (rec st pe)) ∧
          (match pe with
            | none => Q .normal { a with defers := { target := .collected w.heap.size, args := #[] } :: a.defers } (W'.putObj (w.heap.size + 1) (.loop (rec .exhausted none)))
            | some c => c.wp P Q { a with defers := { target := .collected w.heap.size, args := #[] } :: a.defers } (W'.putObj (w.heap.size + 1) (.loop (rec .exhausted (some c))))))) :
    (Code.rangeFunc g ps assign body).wp P Q a w := by
  refine (wpIn_wide (n := 0)).1 (wpIn_rangeFunc_wide hg eg fun rec hr => (h rec hr).mono ?_)
  rintro e W' ⟨hv, st, pe, hst, hl, hq⟩
  refine ⟨hv, st, pe, hst, hl, ?_⟩
  cases pe with
  | none => exact hq
  | some c => exact wpIn_wide.2 hq
/-- A function whose body holds such a statement. -/
theorem calls_of_wp_marks {P : Program} {f : FuncId} {fn : Func} {c : Code} {args : Array Value} {w : World} {R : Ending → World → Prop}
    (hf : P.funcs[f]? = some fn) (hb : fn.body = some c)
    (h : c.wp P (bodyPostM Fence.wide 0 P fn R) { tmps := args ++ Array.replicate (fn.ntmps - args.size) undef, defers := [] } w) : Calls P f args w R :=
  callsIn_wide.1 (callsIn_of_wp_marks (n := 0) hf hb trivial (wpIn_wide.2 h))
/-- The return behind one such statement: the mark is taken up, nothing was deferred. -/
theorem leave_mark {P : Program} {fn : Func} {R : Ending → World → Prop} {a : Act} {w : World} {D : Nat} {v : Value} {e : Exit} (he : e = .normal ∨ e = .ret) (hd : a.defers = [{ target := .collected D, args := #[] }]) (hD : w.heap[D]? = some (.deferred (some [])))
    (hr : (results fn a.tmps).run P (w.putObj D (.deferred none)) = .ok v (w.putObj D (.deferred none))) (hR : R (.returned v) (w.putObj D (.deferred none))) : bodyPostM Fence.wide 0 P fn R e a w := by
  have key : LeavesInM Fence.wide 0 P fn a.tmps R a.defers .returning w := by
    rw [hd]
    refine ⟨by simp, .inl ⟨D, _, rfl, run_takeDeferred hD, ?_⟩⟩
    exact ⟨v, hr, hR⟩
  rcases he with rfl | rfl <;> exact key
/-- .. and ahead of it. -/
theorem leave_bare {P : Program} {fn : Func} {R : Ending → World → Prop} {a : Act} {w : World} {v : Value} {e : Exit} (he : e = .normal ∨ e = .ret) (hd : a.defers = [])
    (hr : (results fn a.tmps).run P w = .ok v w) (hR : R (.returned v) w) : bodyPostM Fence.wide 0 P fn R e a w := by
  have key : LeavesInM Fence.wide 0 P fn a.tmps R a.defers .returning w := by
    rw [hd]
    exact ⟨v, hr, hR⟩
  rcases he with rfl | rfl <;> exact key
#print axioms leave_mark
#print axioms wp_rangeFunc
#print axioms yieldAt_wide
#print axioms wpIn_rangeFunc_wide
end Go.Proofs.Ytdecbimklomdjaa
