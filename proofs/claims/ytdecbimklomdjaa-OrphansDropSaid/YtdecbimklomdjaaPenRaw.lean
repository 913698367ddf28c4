/- purser/octet: a Pen's Raw, of two parts. -/
import Derived.Test.YtdecbimklomdjaaPen
import Derived.Test.YtdecbimklomdjaaMonoI
import Derived.Test.YtdecbimklomdjaaReg26
namespace Go.Proofs.Ytdecbimklomdjaa
open Go Go.RowKit Go.Shelf
/-- append, as one step of a region that draws its order. -/
theorem step_append_to {P : Program} {ops : Array Oper} {o : Oper} {a : Act} {w : World} {K : Act → World → Prop} {Q : Exit → Act → World → Prop} {E : Prop} (hgd : o.guard = none) (d s : Operand) (dT sT : TypeId)
    (ho : o.op = .call { callee := .builtin .append, args := #[d, s], argTypes := #[dT, sT] }) (vd vs : Value) (hd : a.eval d = vd) (hs : a.eval s = vs) {n : Value} {w' : World}
    (hr : (Builtin.append_ #[dT, sT] o.type #[vd, vs]).run P w = .ok n w') (hK : K (a.put o.dst n) w') : if Region.wanted o (yielded ops a.tmps) = true then Oper.wp P o a w K Q else E := by
  rw [if_pos (show Region.wanted o (yielded ops a.tmps) = true by simp [Region.wanted, hgd])]
  unfold Oper.wp
  simp only [execOp, ho, resolve, invoke, builtin, List.map_toArray, List.map_cons, List.map_nil, hd, hs, Sem.run_bind, Sem.run_pure, Result.andThen_ok, hr]
  exact hK
theorem holds_of {w : World} {v : Value} {l : List UInt8} (h : BytesAt w v l) : Lib.HoldsBytes w v l := by
  rcases h with ⟨rfl, rfl⟩ | ⟨b, o, c, rfl, _, _, _, h⟩
  · refine ⟨none, 0, rfl, fun _ => rfl, ?_⟩
    intro a ha
    cases ha
  · refine ⟨some ⟨b, o, none⟩, c, rfl, ?_, fun a ha i x hx => ?_⟩
    · intro h; cases h
    cases ha
    have hadd : (⟨b, o, none⟩ : Addr).add i = ⟨b, o + i, none⟩ := by unfold Addr.add; split <;> simp_all
    rw [hadd]
    exact h i (V8 x) (by rw [List.getElem?_map, hx]; rfl)
theorem own_some (v : Value) : v.ownBlock = none ∨ v.ownBlock ≠ none := by cases v.ownBlock <;> simp
theorem fresh_at {B : Nat} {w : World} {v : Value} {l : List UInt8} (h : Lib.FreshBytes B w v l) : ∃ g c, v = .slice (some ⟨g, 0, none⟩) l.length c ∧ B ≤ g ∧ ∀ j u, (l.map V8)[j]? = some u → w.cell? ((⟨g, 0, none⟩ : Addr).add j) = some u := by
  obtain ⟨g, c, zs, rfl, hB, hlc, _, hzl, hzr, hbz, hcell, _⟩ := h
  refine ⟨g, c, rfl, hB, fun j u hu => ?_⟩
  have hj : j < l.length := by simpa using (List.getElem?_eq_some_iff.1 hu).1
  have hadd : (⟨g, 0, none⟩ : Addr).add j = ⟨g, j, none⟩ := by unfold Addr.add; split <;> simp_all
  rw [hadd, hcell j (by omega)]
  have hz : (Lib.bytesOf (zs.take l.length))[j]? = l[j]? := by rw [hbz]
  have hjz : j < zs.length := by omega
  have hzz := hzr zs[j] (List.getElem_mem _)
  rw [Lib.bytesOf_take, List.getElem?_take_of_lt hj, Lib.bytesOf, List.getElem?_map, List.getElem?_eq_getElem hjz, List.getElem?_eq_getElem hj, Option.map_some, Option.some.injEq] at hz
  rw [List.getElem?_map, List.getElem?_eq_getElem hj, ← hz, Option.map_some, V8_ofNat, Option.some.injEq] at hu
  rw [← hu, List.getD, List.getElem?_eq_getElem hjz, Option.getD_some]
  congr 2
  omega
set_option maxRecDepth 100000 in
set_option maxHeartbeats 1000000 in
theorem raw_any (p b o c : Nat) (v1 v2 : Value) (l l1 l2 : List UInt8) (hl : l.length ≤ 100) (hl1 : l1.length = 32) (hl2 : l2.length = 32) (hc : 2 ≤ c) (w : World) (hp : PenAt w p l)
    (hb : b < w.heap.size) (hc1 : w.cell? ⟨b, o, none⟩ = some v1) (hc2 : w.cell? ⟨b, o + 1, none⟩ = some v2) (h1 : BytesAt w v1 l1) (h2 : BytesAt w v2 l2) :
    Calls Try.prog 136 #[.pointer (some ⟨p, 0, none⟩), .slice (some ⟨b, o, none⟩) 2 c] w fun e w' => e = .returned (.int .i64 0) ∧ PenAt w' p (l ++ (l1 ++ l2)) ∧ Below p w w' := by
  obtain ⟨v, hv, hown⟩ := hp
  obtain ⟨i0, hi, hz0, hz1, hz2⟩ := info_parts info5
  have HI := Lib.hid hi
  have H0 := Lib.hid hz0
  have H1 := Lib.hid hz1
  have H2 := Lib.hid hz2
  have HV := Lib.hid hv
  have HOWN := Lib.hid hown
  have HPW : Hid (p < w.heap.size) := Lib.hid (Array.getElem?_eq_some_iff.1 hv).1
  have hcp : w.cell? ⟨p, 0, none⟩ = some v := cell_of_row _ _ _ _ _ _ hv
  have HL := Lib.hid hl
  have HL1 := Lib.hid hl1
  have HL2 := Lib.hid hl2
  have HCC := Lib.hid hc
  have HPT : Hid (∀ w', Below w.heap.size w w' → Lib.PartsAt w' ⟨b, o, none⟩ [v1, v2] [l1, l2]) := Lib.hid fun w' hb' => by
    have e0 : (⟨b, o, none⟩ : Addr).add 0 = ⟨b, o, none⟩ := by unfold Addr.add; split <;> simp_all
    have e1 : (⟨b, o, none⟩ : Addr).add 1 = ⟨b, o + 1, none⟩ := by unfold Addr.add; split <;> simp_all
    refine ⟨rfl, fun i u hu => ?_, fun i u x hu hx => ?_⟩
    · match i, hu with
      | 0, hu => cases hu; rw [e0]; exact (hb'.cell (p := ⟨b, o, none⟩) hb).trans hc1
      | 1, hu => cases hu; rw [e1]; exact (hb'.cell (p := ⟨b, o + 1, none⟩) hb).trans hc2
    · match i, hu, hx with
      | 0, hu, hx => cases hu; cases hx; exact holds_of (h1.below hb')
      | 1, hu, hx => cases hu; cases hx; exact holds_of (h2.below hb')
  have HJN : Hid (Lib.join [l1, l2] [] = l1 ++ l2) := Lib.hid (by rw [Lib.join_cons]; simp [Lib.joinTail])
  have HJL : Hid ((l1 ++ l2).length = 64) := Lib.hid (by rw [List.length_append, hl1, hl2])
  clear hi hz0 hz1 hz2 hv hown hl hl1 hl2 hc h1 h2 hc1 hc2 hb
  go_enter Try.func136, Try.ntmps136
  go_wp2_with fail
  refine wp_region_any (by kernel_rfl) ?_
  change wpAny _ _ _ _ _ _ _ (World.drew _)
  refine wpAny_take (i := 0) (v := ?_) rfl (by kernel_rfl) (by kernel_rfl) (by kernel_rfl) (fun _ _ _ h => h) (Or.inl ⟨by rfl, ?_⟩) ?_
  rotate_left
  · intro w; go_simp; all_goals rfl
  rotate_left
  refine wpAny_take (i := 1) (v := ?_) rfl (by kernel_rfl) (by kernel_rfl) (by kernel_rfl) (fun _ _ _ h => h) (Or.inl ⟨by rfl, ?_⟩) ?_
  rotate_left
  · intro w; go_simp; all_goals rfl
  rotate_left
  refine wpAny_take (i := 2) (v := ?_) rfl (by kernel_rfl) (by kernel_rfl) (by kernel_rfl) (fun _ _ _ h => h) (Or.inl ⟨by rfl, ?_⟩) ?_
  rotate_left
  · intro w; go_simp; all_goals rfl
  rotate_left
  refine wpAny_take (i := 3) (v := ?_) rfl (by kernel_rfl) (by kernel_rfl) (by kernel_rfl) (fun _ _ _ h => h) (Or.inl ⟨by rfl, ?_⟩) ?_
  rotate_left
  · intro w; go_simp; all_goals rfl
  rotate_left
  refine wpAny_take (i := 5) (v := ?_) rfl (by kernel_rfl) (by kernel_rfl) (by kernel_rfl) (fun _ _ _ h => h) (Or.inl ⟨by rfl, ?_⟩) ?_
  rotate_left
  · intro w; go_simp; all_goals rfl
  rotate_left
  refine wpAny_ready (rs := [4, 6]) (by kernel_rfl) (by simp) ?_
  refine AllReady.cons rfl (fun K hK => ?_) (AllReady.cons rfl (fun K hK => ?_) AllReady.nil)
  · go_simp
    refine hK _ _ ?_; clear hK K
    refine wpAny_ready (rs := [6]) (by kernel_rfl) (by simp) ?_
    refine AllReady.cons rfl (fun K hK => ?_) AllReady.nil
    go_simp
    refine (bytes_Join_many b o 2 c [v1, v2] [l1, l2] (.slice none 0 0) [] _ rfl (by omega) (HPT.out _ (Below.refl _ _).drew) HCC.out (holds_of (.inl ⟨rfl, rfl⟩)) (by decide) (by simp [Lib.lens, HL1.out, HL2.out])).mono ?_
    rintro e w1 ⟨vj, rfl, hfr, hbj⟩
    rw [HJN.out] at hfr
    obtain ⟨gj, cj, rfl, hgj, hcells⟩ := fresh_at hfr
    rw [HJL.out]
    have hds : w.drew.heap.size = w.heap.size := rfl
    have hw1 : w.heap.size ≤ w1.heap.size := hbj.size
    have HJ := Lib.hid hcells
    have HV1 := Lib.hid (block_below' (w := w) (show Below w.heap.size w w1 from (Below.refl _ _).drew.trans hbj) HV.out)
    have HOWN1 := Lib.hid (HOWN.out.kept (grownBy_of_below (show Below w.heap.size w w1 from (Below.refl _ _).drew.trans hbj) none) (own_some _))
    have HB1 := Lib.hid (show Below p w w1 from ((Below.refl _ _).drew.trans hbj).mono (by have := HPW.out; omega))
    clear hfr hbj hcells
    refine hK _ _ ?_; clear hK K
    refine wpAny_ready (rs := [7]) (by kernel_rfl) (by simp) ?_
    refine AllReady.cons rfl (fun K hK => ?_) AllReady.nil
    obtain ⟨v', w2, hrun, hown2, hgr2, _⟩ := run_append_own (P := Try.prog) w1 (p + 1) 25 25 5 i0 (.int .u8 0) 1 1 Try.underlying25 HI.out H0.out H1.out H2.out rfl (by decide) v l.length (l.map V8) HOWN1.out ⟨gj, 0, none⟩ 64 cj ((l1 ++ l2).map V8) (by simp [HL1.out, HL2.out]) HJ.out (all_v8 _) (by have := HL.out; unfold maxLen; omega) (by have := HL.out; omega) (by have := HPW.out; omega)
    refine step_append_to rfl (.tmp 11) (.tmp 13) 25 25 rfl v (.slice (some ⟨gj, 0, none⟩) 64 cj) rfl rfl hrun ?_
    refine hK _ _ ?_; clear hK K
    obtain ⟨va, vc, rfl⟩ := own_slice hown2
    have hown3 : w2.ownsRow (p + 1) 5 1 (.slice va (l.length + 64) vc) (l ++ (l1 ++ l2)).length ((l ++ (l1 ++ l2)).map V8) := by
      rw [List.map_append, List.length_append, List.length_append, HL1.out, HL2.out]
      exact hown2
    obtain ⟨hv2, hpen, hbp⟩ := PenAt.put HV1.out (own_ne HOWN1.out (Nat.lt_succ_self p)) (Below.refl _ w1) hown3 hgr2 (fun k hk => by have := own_ge HOWN1.out hk; omega)
    have hc2 : w2.cell? ⟨p, 0, none⟩ = some v := cell_of_row _ _ _ _ _ _ hv2
    have hf2 : w2.frozen? ⟨p, 0, none⟩ = false := frozen_of_row _ _ _ _ _ hv2
    have HPEN := Lib.hid hpen
    have HBP := Lib.hid (HB1.out.trans hbp)
    clear hown2 hown3 hgr2 hv2 hpen hbp hrun
    refine wpAny_take (i := 8) (v := ?_) rfl (by kernel_rfl) (by kernel_rfl) (by kernel_rfl) (fun _ _ _ h => h) (Or.inl ⟨by rfl, ?_⟩) ?_
    rotate_left
    · intro w; go_simp; all_goals rfl
    rotate_left
    refine wpAny_take (i := 9) (v := ?_) rfl (by kernel_rfl) (by kernel_rfl) (by kernel_rfl) (fun _ _ _ h => h) (Or.inl ⟨by rfl, ?_⟩) ?_
    rotate_left
    · intro w; go_simp; all_goals rfl
    rotate_left
    refine wpAny_ready (rs := [10]) (by kernel_rfl) (by simp) ?_
    refine AllReady.cons rfl (fun K hK => ?_) AllReady.nil
    go_simp
    refine hK _ _ ?_; clear hK K
    refine wpAny_done (by kernel_rfl) ?_ _
    go_wp2_with fail
    go_ret
    exact ⟨rfl, HPEN.out, HBP.out⟩
  · go_simp
    refine (bytes_Join_many b o 2 c [v1, v2] [l1, l2] (.slice none 0 0) [] _ rfl (by omega) (HPT.out _ (Below.refl _ _).drew) HCC.out (holds_of (.inl ⟨rfl, rfl⟩)) (by decide) (by simp [Lib.lens, HL1.out, HL2.out])).mono ?_
    rintro e w1 ⟨vj, rfl, hfr, hbj⟩
    rw [HJN.out] at hfr
    obtain ⟨gj, cj, rfl, hgj, hcells⟩ := fresh_at hfr
    rw [HJL.out]
    have hds : w.drew.heap.size = w.heap.size := rfl
    have hw1 : w.heap.size ≤ w1.heap.size := hbj.size
    have HJ := Lib.hid hcells
    have HV1 := Lib.hid (block_below' (w := w) (show Below w.heap.size w w1 from (Below.refl _ _).drew.trans hbj) HV.out)
    have HOWN1 := Lib.hid (HOWN.out.kept (grownBy_of_below (show Below w.heap.size w w1 from (Below.refl _ _).drew.trans hbj) none) (own_some _))
    have HB1 := Lib.hid (show Below p w w1 from ((Below.refl _ _).drew.trans hbj).mono (by have := HPW.out; omega))
    have hc5 : w1.cell? ⟨p, 0, none⟩ = some v := cell_of_row _ _ _ _ _ _ HV1.out
    clear hfr hbj hcells
    refine hK _ _ ?_; clear hK K
    refine wpAny_ready (rs := [4]) (by kernel_rfl) (by simp) ?_
    refine AllReady.cons rfl (fun K hK => ?_) AllReady.nil
    go_simp
    refine hK _ _ ?_; clear hK K
    refine wpAny_ready (rs := [7]) (by kernel_rfl) (by simp) ?_
    refine AllReady.cons rfl (fun K hK => ?_) AllReady.nil
    obtain ⟨v', w2, hrun, hown2, hgr2, _⟩ := run_append_own (P := Try.prog) w1 (p + 1) 25 25 5 i0 (.int .u8 0) 1 1 Try.underlying25 HI.out H0.out H1.out H2.out rfl (by decide) v l.length (l.map V8) HOWN1.out ⟨gj, 0, none⟩ 64 cj ((l1 ++ l2).map V8) (by simp [HL1.out, HL2.out]) HJ.out (all_v8 _) (by have := HL.out; unfold maxLen; omega) (by have := HL.out; omega) (by have := HPW.out; omega)
    refine step_append_to rfl (.tmp 11) (.tmp 13) 25 25 rfl v (.slice (some ⟨gj, 0, none⟩) 64 cj) rfl rfl hrun ?_
    refine hK _ _ ?_; clear hK K
    obtain ⟨va, vc, rfl⟩ := own_slice hown2
    have hown3 : w2.ownsRow (p + 1) 5 1 (.slice va (l.length + 64) vc) (l ++ (l1 ++ l2)).length ((l ++ (l1 ++ l2)).map V8) := by
      rw [List.map_append, List.length_append, List.length_append, HL1.out, HL2.out]
      exact hown2
    obtain ⟨hv2, hpen, hbp⟩ := PenAt.put HV1.out (own_ne HOWN1.out (Nat.lt_succ_self p)) (Below.refl _ w1) hown3 hgr2 (fun k hk => by have := own_ge HOWN1.out hk; omega)
    have hc2 : w2.cell? ⟨p, 0, none⟩ = some v := cell_of_row _ _ _ _ _ _ hv2
    have hf2 : w2.frozen? ⟨p, 0, none⟩ = false := frozen_of_row _ _ _ _ _ hv2
    have HPEN := Lib.hid hpen
    have HBP := Lib.hid (HB1.out.trans hbp)
    clear hown2 hown3 hgr2 hv2 hpen hbp hrun
    refine wpAny_take (i := 8) (v := ?_) rfl (by kernel_rfl) (by kernel_rfl) (by kernel_rfl) (fun _ _ _ h => h) (Or.inl ⟨by rfl, ?_⟩) ?_
    rotate_left
    · intro w; go_simp; all_goals rfl
    rotate_left
    refine wpAny_take (i := 9) (v := ?_) rfl (by kernel_rfl) (by kernel_rfl) (by kernel_rfl) (fun _ _ _ h => h) (Or.inl ⟨by rfl, ?_⟩) ?_
    rotate_left
    · intro w; go_simp; all_goals rfl
    rotate_left
    refine wpAny_ready (rs := [10]) (by kernel_rfl) (by simp) ?_
    refine AllReady.cons rfl (fun K hK => ?_) AllReady.nil
    go_simp
    refine hK _ _ ?_; clear hK K
    refine wpAny_done (by kernel_rfl) ?_ _
    go_wp2_with fail
    go_ret
    exact ⟨rfl, HPEN.out, HBP.out⟩
end Go.Proofs.Ytdecbimklomdjaa
