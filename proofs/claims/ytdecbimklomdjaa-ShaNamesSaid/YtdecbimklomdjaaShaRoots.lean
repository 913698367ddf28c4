/- purserlaw04.ShaRoots: its walk. -/
import Derived.Test.YtdecbimklomdjaaReg26
namespace Go.Proofs.Ytdecbimklomdjaa
open Go Go.RowKit Go.Shelf
/-- Words that lie in a block. -/
def WordsIn (w : World) (g : Nat) (l : List Sha.W) : Prop := g < w.heap.size ∧ ∀ j, j < l.length → w.cell? ⟨g, j, none⟩ = some (V32 (l.getD j 0))
theorem WordsIn.below {w w' : World} {g : Nat} {l : List Sha.W} (h : WordsIn w g l) (hb : Below w.heap.size w w') : WordsIn w' g l :=
  ⟨Nat.lt_of_lt_of_le h.1 hb.size, fun j hj => (hb.cell (p := ⟨g, j, none⟩) h.1).trans (h.2 j hj)⟩
theorem OwnW.inn {W : Nat} {w : World} {v : Value} {l : List Sha.W} (h : OwnW W w v l) (hl : 0 < l.length) : ∃ g c, v = .slice (some ⟨g, 0, none⟩) l.length c ∧ WordsIn w g l := by
  obtain ⟨base, _, _, h3⟩ := h
  rcases h3 with ⟨_, h0⟩ | ⟨g, c, cur, rfl, _, hg, hn, _, hs, ht⟩
  · omega
  · refine ⟨g, c, rfl, (Array.getElem?_eq_some_iff.1 hg).1, fun j hj => ?_⟩
    rw [cell_of_row _ _ _ _ _ _ hg]
    have e : (cur.toList.take (l.length * 1))[j]? = (l.map V32)[j]? := by rw [ht]
    rw [List.getElem?_take_of_lt (by omega), List.getElem?_map, List.getElem?_eq_getElem hj] at e
    rw [← Array.getElem?_toList, e, List.getD, List.getElem?_eq_getElem hj]
    rfl
/-- What ShaRoots keeps in memory. -/
structure RtM (w wr : World) (gs gc : Nat) : Prop where
  below : Below w.heap.size w wr
  sq : WordsIn wr gs Sha.iv.list
  cu : WordsIn wr gc Sha.K
theorem RtM.step {w wr w' : World} {gs gc : Nat} (h : RtM w wr gs gc) (hb : Below wr.heap.size wr w') : RtM w w' gs gc :=
  ⟨h.below.trans (hb.mono h.below.size), h.sq.below hb, h.cu.below hb⟩
set_option maxRecDepth 100000 in
set_option maxHeartbeats 4000000 in
theorem sharoots_any (w : World) : Calls Try.prog 15 #[] w fun e w' => e = .returned (.bool true) ∧ Below w.heap.size w w' := by
  go_enter Try.func15, Try.ntmps15
  go_wp2_with fail
  refine (roots_any w).mono ?_
  rintro e W1 ⟨v0, v1, rfl, ho0, ho1, hb1⟩
  obtain ⟨gs, cs, rfl, hs⟩ := ho0.inn (by decide)
  obtain ⟨gc, cc, rfl, hc⟩ := ho1.inn (by decide)
  have HM : Hid (RtM w W1 gs gc) := Lib.hid ⟨hb1, hs, hc⟩
  clear ho0 ho1 hs hc hb1
  rw [show Sha.iv.list.length = 8 from rfl, show Sha.K.length = 64 from rfl]
  go_wp2_with fail
  go_loopw [3, 4] (fun p a wr => ∃ q : Nat, 1 ≤ q ∧ q ≤ 311 ∧ p = .int .u64 q ∧ a = .int .i64 (cnt q) ∧ RtM w wr gs gc) (fun p _ _ => 312 - (intOf p).toNat)
  case atStart => exact ⟨1, by omega, by omega, rfl, by rw [cnt_one]; rfl, HM.out⟩
  case round =>
    obtain ⟨p, hp1, hp2, rfl, rfl, hm⟩ := hrel
    have HM1 := Lib.hid hm
    clear hm HM
    have hcl := cnt_le p (by omega)
    obtain ⟨c, hcp⟩ : ∃ c, c = cnt p := ⟨_, rfl⟩
    have HCP := Lib.hid hcp
    rw [← hcp] at hcl
    rw [← hcp]
    obtain ⟨hcl1, hcl2⟩ := hcl
    clear hcp
    by_cases hlt : c < 64
    · have hp3 := hcl2 hlt
      have hlti : (c : Int) < 64 := by omega
      clear hcl2
      obtain ⟨q, hq⟩ : ∃ q, q = p + 1 := ⟨_, rfl⟩
      have hq2 : 2 ≤ q := by omega
      have hq3 : q < 312 := by omega
      have hqi : (p : Int) + 1 = (q : Int) := by omega
      have HQ := Lib.hid hq
      clear hq
      go_wp2_with fail
      obtain ⟨wo, rfl⟩ : ∃ wo : World, wo = wr := ⟨_, rfl⟩
      go_loop [5, 6] (fun b d => ∃ k : Nat, 2 ≤ k ∧ k ≤ 19 ∧ (k - 1) * (k - 1) ≤ q ∧ b = .bool (tst q k) ∧ d = .int .u64 k) (fun _ d => 20 - (intOf d).toNat)
      case atStart => exact ⟨2, by omega, by omega, by omega, by rw [tst_two], rfl⟩
      case round =>
        obtain ⟨k, hk1, hk2, hk3, rfl, rfl⟩ := hrel
        have hkk : (k : Int) * k ≤ 361 := by
          have := Nat.mul_le_mul hk2 hk2
          exact_mod_cast this
        have hkk0 : (0 : Int) ≤ (k : Int) * k := Int.mul_nonneg (by omega) (by omega)
        have hk0 : (0 : Int) < k := by omega
        have hts := tst_succ q k hk1
        obtain ⟨b, hb⟩ : ∃ b, b = tst q k := ⟨_, rfl⟩
        have HTS := Lib.hid hts
        have HBT := Lib.hid hb
        rw [← hb]
        clear hts hb
        by_cases hle : k * k ≤ q
        · have hlei : (k : Int) * k ≤ q := by exact_mod_cast hle
          have hk18 : k ≤ 18 := by
            rcases Nat.lt_or_ge k 19 with h | h
            · omega
            · have := Nat.mul_le_mul h h
              omega
          by_cases hm : q % k = 0
          · have hmi : (q : Int) % k = 0 := by exact_mod_cast hm
            cases b
            all_goals
              go_wp2_with fail
              refine ⟨⟨k + 1, by omega, by omega, by rw [Nat.add_sub_cancel]; exact hle, by rw [HTS.out, ← HBT.out, hm]; rfl, by go_num⟩, by simp [intOf]; omega⟩
          · have hmi : (q : Int) % k ≠ 0 := by exact_mod_cast hm
            cases b
            all_goals
              go_wp2_with fail
              refine ⟨⟨k + 1, by omega, by omega, by rw [Nat.add_sub_cancel]; exact hle, by rw [HTS.out, ← HBT.out]; first | rfl | (rw [show ((q : Int) % k != 0) = true from bne_iff_ne.2 hmi, show (q % k != 0) = true from bne_iff_ne.2 hm]; rfl), by go_num⟩, by simp [intOf]; omega⟩
        · have hgt : (q : Int) < (k : Int) * k := by
            have : q < k * k := by omega
            exact_mod_cast this
          have hte := tst_end q hq3 k (by omega) ⟨hk1, hq2, by omega, hk3⟩
          rw [← HBT.out] at hte
          have HTE := Lib.hid hte
          clear hte
          have hcq : cnt q = c + if isPr q then 1 else 0 := by rw [HCP.out, HQ.out]; rfl
          have HCQ := Lib.hid hcq
          have hcq1 : cnt (q - 1) = c := by rw [HCP.out, HQ.out]; rfl
          have HC1 := Lib.hid hcq1
          clear hcq hcq1 hcl1
          cases b
          · go_wp2_with fail
            refine ⟨⟨q, by omega, by omega, rfl, by rw [HCQ.out, ← HTE.out]; rfl, HM1.out⟩, by simp [intOf]; omega⟩
          · have hro := roots_ok q hq3 HTE.out.symm
            rw [HC1.out] at hro
            have HRO := Lib.hid hro
            clear hro
            go_wp2_with fail
            go_loopw [7] (fun t wr => ∃ t' : Nat, 2 ≤ t' ∧ t' ≤ 4 ∧ t = .int .i64 t' ∧ RtM w wr gs gc) (fun t _ => 4 - (intOf t).toNat)
            case atStart => exact ⟨2, by omega, by omega, rfl, HM1.out⟩
            case round =>
              obtain ⟨t, ht1, ht2, rfl, hm⟩ := hrel
              have HM2 := Lib.hid hm
              clear hm
              obtain rfl | rfl | rfl : t = 2 ∨ t = 3 ∨ t = 4 := by omega
              · have ht2 : ((2 : Nat) : Int) = 2 := rfl
                rw [ht2]
                by_cases hc8 : c < 8
                · as_aux_lemma =>
                    have hc8i : (c : Int) < 8 := by omega
                    have c1 : wr.cell? ⟨gc, c, none⟩ = some (.int .u32 (w32 (Sha.K.getD c 0))) := HM2.out.cu.2 c (by show c < 64; omega)
                    have c2 : wr.cell? ⟨gs, c, none⟩ = some (.int .u32 (w32 (Sha.iv.list.getD c 0))) := HM2.out.sq.2 c (by show c < 8; omega)
                    obtain ⟨L, hL⟩ : ∃ L, L = lowOf 2 q := ⟨_, rfl⟩
                    obtain ⟨L3, hL3⟩ : ∃ L3, L3 = (Sha.K.getD c 0).toNat := ⟨_, rfl⟩
                    have e1 : w32 (Sha.iv.list.getD c 0) = (L : Int) := by rw [hL]; unfold lowOf w32; rw [if_pos rfl, HC1.out]
                    have e2 : w32 (Sha.K.getD c 0) = (L3 : Int) := by rw [hL3]; rfl
                    have hLb : L < 4294967296 := by rw [hL]; unfold lowOf; rw [if_pos rfl]; exact BitVec.isLt _
                    have hLb3 : L3 < 4294967296 := by rw [hL3]; exact BitVec.isLt _
                    rw [e1] at c2
                    rw [e2] at c1
                    have HL := Lib.hid hL
                    clear hL hL3 e1 e2
                    go_wp2_with fail
                    obtain ⟨r, hr⟩ : ∃ r, r = irt 2 q := ⟨_, rfl⟩
                    have hrl : r ≤ 17 := by rw [hr]; exact (irt_le q hq3).1
                    have HAT : Hid (∀ x, x ≤ r → decide ((x + 1) ^ 2 ≤ q) = decide (x < r)) := Lib.hid (fun x hx => by rw [hr] at hx hrl ⊢; exact (irt_at q hq3 x (by omega)).1 hx)
                    have HRO1 : Hid ((r * 4294967296 + L) ^ 2 ≤ q * 18446744073709551616) := Lib.hid (by rw [hr, HL.out]; exact (HRO.out.1 hc8).1)
                    have HRO2 : Hid (q * 18446744073709551616 < (r * 4294967296 + L + 1) ^ 2) := Lib.hid (by rw [hr, HL.out]; exact (HRO.out.1 hc8).2)
                    have HRL := Lib.hid hrl
                    have HLB := Lib.hid hLb
                    clear hr
                    obtain ⟨w5, rfl⟩ : ∃ w5 : World, w5 = wr := ⟨_, rfl⟩
                    go_loopw [9] (fun x wr => ∃ x' : Nat, x' ≤ r ∧ x = .int .u64 x' ∧ RtM w wr gs gc) (fun x _ => 20 - (intOf x).toNat)
                    case atStart => exact ⟨0, by omega, rfl, HM2.out⟩
                    case round =>
                      obtain ⟨x, hx, rfl, hm⟩ := hrel
                      have HM3 := Lib.hid hm
                      clear hm
                      have hat := HAT.out x hx
                      have HXB : Hid (x + 1 < 18446744073709551616) := Lib.hid (by omega)
                      have HQB : Hid (q < 18446744073709551616) := Lib.hid (by omega)
                      by_cases hxr : x < r
                      · have hle5 : (x + 1) ^ 2 ≤ q := by rw [decide_eq_true hxr] at hat; exact of_decide_eq_true hat
                        have HLE := Lib.hid hle5
                        clear hat hle5
                        as_aux_lemma =>
                          go_wp2_with fail
                          change Calls Try.prog 63 #[V64 (x + 1), .int .i64 ((2 : Nat) : Int)] _ _
                          refine (power_any (x + 1) 2 HXB.out (by decide) _).mono ?_
                          rintro _ wa ⟨rfl, hba⟩
                          have HMa := Lib.hid (HM3.out.step hba)
                          clear hba
                          go_wp2_with fail
                          change Calls Try.prog 64 #[V64 q] _ _
                          refine (ofN_any q HQB.out _).mono ?_
                          rintro _ wb ⟨rfl, hbb⟩
                          have HMb := Lib.hid (HMa.out.step hbb)
                          clear hbb
                          go_wp2_with fail
                          refine (cmp_any ((x + 1) ^ 2) q (pow_small _ _ HXB.out (by decide)) (by have := HQB.out; omega) _).mono ?_
                          rintro _ wc ⟨rfl, hbc⟩
                          have HMc := Lib.hid (HMb.out.step hbc)
                          clear hbc
                          obtain ⟨cv, hcv⟩ : ∃ cv, cv = cmpI ((x + 1) ^ 2) q := ⟨_, rfl⟩
                          rw [← hcv]
                          have hcv0 : cv ≤ 0 := by rw [hcv]; exact cmpI_le _ _ HLE.out
                          clear hcv
                          have hx100 : (x : Int) + 1 ≤ 100 := by omega
                          go_wp2_with fail
                          exact ⟨⟨x + 1, by omega, by go_num, HMc.out⟩, by simp [intOf]; omega⟩
                      · have hxr2 : x = r := by omega
                        subst hxr2
                        have hle5 : q < (x + 1) ^ 2 := by
                          rw [decide_eq_false hxr] at hat
                          have := of_decide_eq_false hat
                          omega
                        have HLE := Lib.hid hle5
                        clear hat hle5
                        as_aux_lemma =>
                          go_wp2_with fail
                          change Calls Try.prog 63 #[V64 (x + 1), .int .i64 ((2 : Nat) : Int)] _ _
                          refine (power_any (x + 1) 2 HXB.out (by decide) _).mono ?_
                          rintro _ wa ⟨rfl, hba⟩
                          have HMa := Lib.hid (HM3.out.step hba)
                          clear hba
                          go_wp2_with fail
                          change Calls Try.prog 64 #[V64 q] _ _
                          refine (ofN_any q HQB.out _).mono ?_
                          rintro _ wb ⟨rfl, hbb⟩
                          have HMb := Lib.hid (HMa.out.step hbb)
                          clear hbb
                          go_wp2_with fail
                          refine (cmp_any ((x + 1) ^ 2) q (pow_small _ _ HXB.out (by decide)) (by have := HQB.out; omega) _).mono ?_
                          rintro _ wc ⟨rfl, hbc⟩
                          have HMc := Lib.hid (HMb.out.step hbc)
                          clear hbc
                          obtain ⟨cv, hcv⟩ : ∃ cv, cv = cmpI ((x + 1) ^ 2) q := ⟨_, rfl⟩
                          rw [← hcv]
                          have hcv0 : 0 < cv := by rw [hcv]; exact cmpI_gt _ _ HLE.out
                          clear hcv
                          go_wp2_with fail
                          change Calls Try.prog 64 #[V64 q] _ _
                          refine (ofN_any q HQB.out _).mono ?_
                          rintro _ wd ⟨rfl, hbd⟩
                          have HMd := Lib.hid (HMc.out.step hbd)
                          clear hbd
                          go_wp2_with fail
                          refine (left64N q (by omega) _).mono ?_
                          rintro _ we ⟨rfl, hbe⟩
                          have HMe := Lib.hid (HMd.out.step hbe)
                          clear hbe
                          obtain ⟨wt, hwt⟩ : ∃ wt, wt = q * 18446744073709551616 := ⟨_, rfl⟩
                          have HWB : Hid (wt < 18446744073709551616 ^ 4) := Lib.hid (by rw [hwt]; omega)
                          rw [← hwt] at HRO1 HRO2
                          rw [← hwt]
                          clear hwt
                          unfold wideN
                          go_wp2_with ((with_reducible refine wpList_store_row ?_ 102 (.tmp 10) (.tmp 81) ?_ we.heap.size (wideA (digs 4 wt)) ?_ ?_ 102 _ (heap_alloc_new we _) ?_ ?_ ?_ ?_);  (next => rfl); (next => rfl); (next => rfl); (next => rfl); (next => exact info102 _); (next => rfl); (next => exact all_wide _); rw [World.setRow_alloc_new])
                          have HD := Lib.hid (heap_alloc_new we (.cells (wideA (digs 4 wt)) 102))
                          have HMf := Lib.hid (HMe.out.step ((Below.refl we.heap.size we).alloc (Nat.le_refl _) (.cells (wideA (digs 4 wt)) 102)))
                          obtain ⟨D, hDe⟩ : ∃ D, D = we.heap.size := ⟨_, rfl⟩
                          rw [← hDe] at HD
                          rw [← hDe]
                          clear hDe
                          generalize we.alloc (.cells (wideA (digs 4 wt)) 102) = wf at *
                          refine reg26_2 x L wt D wf _ _ HRL.out HLB.out HWB.out HRO1.out HRO2.out HD.out rfl rfl rfl rfl rfl ?_
                          intro vals wg h20 hbg
                          have HMg := Lib.hid (HMf.out.step hbg)
                          clear hbg
                          rw [put26, h20]
                          simp only [Act.put, List.setIfInBounds_toArray, List.set_cons_zero, List.set_cons_succ]
                          go_wp2_with fail
                          exact ⟨⟨3, by omega, by omega, rfl, HMg.out⟩, by decide⟩
                · as_aux_lemma =>
                    have hc8i : (8 : Int) ≤ c := by omega
                    go_wp2_with fail
                    exact ⟨⟨3, by omega, by omega, rfl, HM2.out⟩, by decide⟩
              · as_aux_lemma =>
                  have ht3 : ((3 : Nat) : Int) = 3 := rfl
                  rw [ht3]
                  have c1 : wr.cell? ⟨gc, c, none⟩ = some (.int .u32 (w32 (Sha.K.getD c 0))) := HM2.out.cu.2 c (by show c < 64; omega)
                  obtain ⟨L, hL⟩ : ∃ L, L = lowOf 3 q := ⟨_, rfl⟩
                  have e1 : w32 (Sha.K.getD c 0) = (L : Int) := by rw [hL]; unfold lowOf w32; rw [if_neg (by decide), HC1.out]
                  have hLb : L < 4294967296 := by rw [hL]; unfold lowOf; rw [if_neg (by decide)]; exact BitVec.isLt _
                  rw [e1] at c1
                  have HL := Lib.hid hL
                  clear hL e1
                  go_wp2_with fail
                  obtain ⟨r, hr⟩ : ∃ r, r = irt 3 q := ⟨_, rfl⟩
                  have hrl : r ≤ 17 := by rw [hr]; exact (irt_le q hq3).2
                  have HAT : Hid (∀ x, x ≤ r → decide ((x + 1) ^ 3 ≤ q) = decide (x < r)) := Lib.hid (fun x hx => by rw [hr] at hx hrl ⊢; exact (irt_at q hq3 x (by omega)).2 hx)
                  have HRO1 : Hid ((r * 4294967296 + L) ^ 3 ≤ q * 79228162514264337593543950336) := Lib.hid (by rw [hr, HL.out]; exact HRO.out.2.1)
                  have HRO2 : Hid (q * 79228162514264337593543950336 < (r * 4294967296 + L + 1) ^ 3) := Lib.hid (by rw [hr, HL.out]; exact HRO.out.2.2)
                  have HRL := Lib.hid hrl
                  have HLB := Lib.hid hLb
                  clear hr
                  obtain ⟨w5, rfl⟩ : ∃ w5 : World, w5 = wr := ⟨_, rfl⟩
                  go_loopw [9] (fun x wr => ∃ x' : Nat, x' ≤ r ∧ x = .int .u64 x' ∧ RtM w wr gs gc) (fun x _ => 20 - (intOf x).toNat)
                  case atStart => exact ⟨0, by omega, rfl, HM2.out⟩
                  case round =>
                    obtain ⟨x, hx, rfl, hm⟩ := hrel
                    have HM3 := Lib.hid hm
                    clear hm
                    have hat := HAT.out x hx
                    have HXB : Hid (x + 1 < 18446744073709551616) := Lib.hid (by omega)
                    have HQB : Hid (q < 18446744073709551616) := Lib.hid (by omega)
                    by_cases hxr : x < r
                    · have hle5 : (x + 1) ^ 3 ≤ q := by rw [decide_eq_true hxr] at hat; exact of_decide_eq_true hat
                      have HLE := Lib.hid hle5
                      clear hat hle5
                      as_aux_lemma =>
                        go_wp2_with fail
                        change Calls Try.prog 63 #[V64 (x + 1), .int .i64 ((3 : Nat) : Int)] _ _
                        refine (power_any (x + 1) 3 HXB.out (by decide) _).mono ?_
                        rintro _ wa ⟨rfl, hba⟩
                        have HMa := Lib.hid (HM3.out.step hba)
                        clear hba
                        go_wp2_with fail
                        change Calls Try.prog 64 #[V64 q] _ _
                        refine (ofN_any q HQB.out _).mono ?_
                        rintro _ wb ⟨rfl, hbb⟩
                        have HMb := Lib.hid (HMa.out.step hbb)
                        clear hbb
                        go_wp2_with fail
                        refine (cmp_any ((x + 1) ^ 3) q (pow_small _ _ HXB.out (by decide)) (by have := HQB.out; omega) _).mono ?_
                        rintro _ wc ⟨rfl, hbc⟩
                        have HMc := Lib.hid (HMb.out.step hbc)
                        clear hbc
                        obtain ⟨cv, hcv⟩ : ∃ cv, cv = cmpI ((x + 1) ^ 3) q := ⟨_, rfl⟩
                        rw [← hcv]
                        have hcv0 : cv ≤ 0 := by rw [hcv]; exact cmpI_le _ _ HLE.out
                        clear hcv
                        have hx100 : (x : Int) + 1 ≤ 100 := by omega
                        go_wp2_with fail
                        exact ⟨⟨x + 1, by omega, by go_num, HMc.out⟩, by simp [intOf]; omega⟩
                    · have hxr2 : x = r := by omega
                      subst hxr2
                      have hle5 : q < (x + 1) ^ 3 := by
                        rw [decide_eq_false hxr] at hat
                        have := of_decide_eq_false hat
                        omega
                      have HLE := Lib.hid hle5
                      clear hat hle5
                      as_aux_lemma =>
                        go_wp2_with fail
                        change Calls Try.prog 63 #[V64 (x + 1), .int .i64 ((3 : Nat) : Int)] _ _
                        refine (power_any (x + 1) 3 HXB.out (by decide) _).mono ?_
                        rintro _ wa ⟨rfl, hba⟩
                        have HMa := Lib.hid (HM3.out.step hba)
                        clear hba
                        go_wp2_with fail
                        change Calls Try.prog 64 #[V64 q] _ _
                        refine (ofN_any q HQB.out _).mono ?_
                        rintro _ wb ⟨rfl, hbb⟩
                        have HMb := Lib.hid (HMa.out.step hbb)
                        clear hbb
                        go_wp2_with fail
                        refine (cmp_any ((x + 1) ^ 3) q (pow_small _ _ HXB.out (by decide)) (by have := HQB.out; omega) _).mono ?_
                        rintro _ wc ⟨rfl, hbc⟩
                        have HMc := Lib.hid (HMb.out.step hbc)
                        clear hbc
                        obtain ⟨cv, hcv⟩ : ∃ cv, cv = cmpI ((x + 1) ^ 3) q := ⟨_, rfl⟩
                        rw [← hcv]
                        have hcv0 : 0 < cv := by rw [hcv]; exact cmpI_gt _ _ HLE.out
                        clear hcv
                        go_wp2_with fail
                        change Calls Try.prog 64 #[V64 q] _ _
                        refine (ofN_any q HQB.out _).mono ?_
                        rintro _ wd ⟨rfl, hbd⟩
                        have HMd := Lib.hid (HMc.out.step hbd)
                        clear hbd
                        go_wp2_with fail
                        refine (left96N q (by omega) _).mono ?_
                        rintro _ we ⟨rfl, hbe⟩
                        have HMe := Lib.hid (HMd.out.step hbe)
                        clear hbe
                        obtain ⟨wt, hwt⟩ : ∃ wt, wt = q * 79228162514264337593543950336 := ⟨_, rfl⟩
                        have HWB : Hid (wt < 18446744073709551616 ^ 4) := Lib.hid (by rw [hwt]; omega)
                        rw [← hwt] at HRO1 HRO2
                        rw [← hwt]
                        clear hwt
                        unfold wideN
                        go_wp2_with ((with_reducible refine wpList_store_row ?_ 102 (.tmp 10) (.tmp 81) ?_ we.heap.size (wideA (digs 4 wt)) ?_ ?_ 102 _ (heap_alloc_new we _) ?_ ?_ ?_ ?_);  (next => rfl); (next => rfl); (next => rfl); (next => rfl); (next => exact info102 _); (next => rfl); (next => exact all_wide _); rw [World.setRow_alloc_new])
                        have HD := Lib.hid (heap_alloc_new we (.cells (wideA (digs 4 wt)) 102))
                        have HMf := Lib.hid (HMe.out.step ((Below.refl we.heap.size we).alloc (Nat.le_refl _) (.cells (wideA (digs 4 wt)) 102)))
                        obtain ⟨D, hDe⟩ : ∃ D, D = we.heap.size := ⟨_, rfl⟩
                        rw [← hDe] at HD
                        rw [← hDe]
                        clear hDe
                        generalize we.alloc (.cells (wideA (digs 4 wt)) 102) = wf at *
                        refine reg26_3 x L wt D wf _ _ HRL.out HLB.out HWB.out HRO1.out HRO2.out HD.out rfl rfl rfl rfl rfl ?_
                        intro vals wg h20 hbg
                        have HMg := Lib.hid (HMf.out.step hbg)
                        clear hbg
                        rw [put26, h20]
                        simp only [Act.put, List.setIfInBounds_toArray, List.set_cons_zero, List.set_cons_succ]
                        go_wp2_with fail
                        exact ⟨⟨4, by omega, by omega, rfl, HMg.out⟩, by decide⟩
              · as_aux_lemma =>
                  go_wp2_with fail
                  exact ⟨⟨q, by omega, by omega, rfl, by rw [HCQ.out, ← HTE.out]; go_num, HM2.out⟩, by simp [intOf]; omega⟩
    · have hlti : (64 : Int) ≤ c := by omega
      go_wp2_with fail
      refine (first_any wr).mono ?_
      rintro _ wz ⟨rfl, hbz⟩
      have HMz := Lib.hid (HM1.out.step hbz)
      clear hbz
      go_wp2_with fail
      go_ret
      exact ⟨rfl, HMz.out.below⟩
end Go.Proofs.Ytdecbimklomdjaa
