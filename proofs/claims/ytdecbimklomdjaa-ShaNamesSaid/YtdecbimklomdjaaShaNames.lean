/- purserlaw04.ShaNames: its walk, up to the examples. -/
import Derived.Test.YtdecbimklomdjaaNmR
import Derived.Test.YtdecbimklomdjaaKNc
import Derived.Test.YtdecbimklomdjaaShelfR
import Derived.Lib.SlBytesConst
namespace Go.Proofs.Ytdecbimklomdjaa
open Go Go.RowKit Go.Shelf
def longL : List UInt8 := [97, 98, 99, 100, 98, 99, 100, 101, 99, 100, 101, 102, 100, 101, 102, 103, 101, 102, 103, 104, 102, 103, 104, 105, 103, 104, 105, 106, 104, 105, 106, 107, 105, 106, 107, 108, 106, 107, 108, 109, 107, 108, 109, 110, 108, 109, 110, 111, 109, 110, 111, 112, 110, 111, 112, 113]
theorem hex_long : hexL (Sha.hash longL) = hexLong := by decide +kernel
theorem hex_million : hexL (Sha.hash (List.replicate 1000000 97)) = hexMill := by
  rw [Sha.hash_million]
  decide +kernel
theorem repeat_letters : ∀ n, Lib.repeatL [97] n = List.replicate n 97
  | 0 => rfl
  | n + 1 => by rw [Lib.repeatL, repeat_letters n]; rfl
theorem eql28z (W : World) : (Op.equalIn 10000 28 (.agg (bytesA (Sha.zeros 32))) (.agg #[.int .u8 0, .int .u8 0, .int .u8 0, .int .u8 0, .int .u8 0, .int .u8 0, .int .u8 0, .int .u8 0, .int .u8 0, .int .u8 0, .int .u8 0, .int .u8 0, .int .u8 0, .int .u8 0, .int .u8 0, .int .u8 0, .int .u8 0, .int .u8 0, .int .u8 0, .int .u8 0, .int .u8 0, .int .u8 0, .int .u8 0, .int .u8 0, .int .u8 0, .int .u8 0, .int .u8 0, .int .u8 0, .int .u8 0, .int .u8 0, .int .u8 0, .int .u8 0])).run Try.prog W = .ok true W := by
  have h := run_equalIn_bytes W 9998 28 5 32 Try.underlying28 Try.underlying5 (fun w => sizeOf5 w) (Sha.zeros 32) (Sha.zeros 32) rfl rfl
  rw [beq_self_eq_true] at h
  exact h
/-- What the thousand writes keep. -/
structure NmM (w wr : World) (bs : Nat) (v : Value) (L : List UInt8) (k : Nat) : Prop where
  below : Below w.heap.size w wr
  lo : w.heap.size ≤ bs
  sum : SumAt wr bs (List.replicate (1000 * k) 97)
  piece : BytesAt wr v L
theorem NmM.step {w wr w' : World} {bs : Nat} {v : Value} {L : List UInt8} {k : Nat} (h : NmM w wr bs v L k) (hb : Below wr.heap.size wr w') : NmM w w' bs v L k :=
  ⟨h.below.trans (hb.mono h.below.size), h.lo, h.sum.below hb, h.piece.below hb⟩
theorem NmM.write {w wr w' : World} {bs : Nat} {v : Value} {L : List UInt8} {k : Nat} (h : NmM w wr bs v L k) (hL : L = List.replicate 1000 97) (hne : v.ownBlock ≠ some bs) (hs : SumAt w' bs (List.replicate (1000 * k) 97 ++ L)) (hg : wr.grownBy w' (some bs)) : NmM w w' bs v L (k + 1) := by
  refine ⟨h.below.grown hg h.below.size (fun j hj => by have := Option.some.inj hj; have := h.lo; omega), h.lo, ?_, h.piece.grown hg (fun b hb he => hne (by rw [hb, he]))⟩
  rw [hL, List.replicate_append_replicate] at hs
  exact hs
set_option maxRecDepth 100000 in
set_option maxHeartbeats 4000000 in
theorem shanames_any (w : World) : Calls Try.prog 16 #[] w fun e w' => e = .returned (.bool true) ∧ Below w.heap.size w w' := by
  go_enter Try.func16, Try.ntmps16
  go_wp2_with fail
  refine (new_any w).mono ?_
  rintro e W1 ⟨bs, rfl, hbs, hb1, hs1⟩
  have HS1 := Lib.hid (new_sum hs1)
  have HB1 := Lib.hid hb1
  have HBS := Lib.hid hbs
  have hbs1 : bs < W1.heap.size := (Array.getElem?_eq_some_iff.1 hs1).1
  clear hs1 hb1
  go_wp2_with fail
  refine (strings_Repeat_main ⟨#[97]⟩ 1000 W1 (by decide) (by decide) (by decide) (by decide)).mono ?_
  rintro e W2 ⟨rfl, hb2⟩
  have HS2 := Lib.hid (HS1.out.below hb2)
  have HB2 := Lib.hid (HB1.out.trans (hb2.mono HB1.out.size))
  have hbs2 : bs < W2.heap.size := Nat.lt_of_lt_of_le hbs1 hb2.size
  clear hb2
  rw [show (⟨#[97]⟩ : ByteArray).data.toList = [97] from rfl, repeat_letters]
  obtain ⟨L, hL⟩ : ∃ L : List UInt8, L = List.replicate 1000 97 := ⟨_, rfl⟩
  rw [← hL]
  have hll : L.length = 1000 := by rw [hL, List.length_replicate]
  have HL := Lib.hid hL
  have HLL := Lib.hid hll
  clear hL hll
  have hcv := Lib.run_convert_string_bytes (P := Try.prog) W2 9 25 5 ⟨L.toArray⟩ Try.underlying9 Try.underlying25 Try.underlying5
  have HCV := Lib.hid hcv
  clear hcv
  go_wp2_with ((with_reducible refine wpList_val ?_ (.slice (some ⟨W2.heap.size, 0, none⟩) L.length (grownCap W2 L.length 0 5)) (w' := Lib.bytesWorld W2 5 ⟨L.toArray⟩) ?_ ?_); (next => rfl); (next => exact conv_run rfl rfl HCV.out))
  have hv3 := bytesAt_conv W2 L (by rw [HLL.out]; decide)
  have hb3 := below_bytesWorld W2 ⟨L.toArray⟩
  have HM : Hid (NmM w (Lib.bytesWorld W2 5 ⟨L.toArray⟩) bs (.slice (some ⟨W2.heap.size, 0, none⟩) L.length (grownCap W2 L.length 0 5)) L 0) := Lib.hid ⟨HB2.out.trans (hb3.mono HB2.out.size), HBS.out, HS2.out.below hb3, hv3⟩
  have HNE : Hid ((Value.slice (some ⟨W2.heap.size, 0, none⟩) L.length (grownCap W2 L.length 0 5)).ownBlock ≠ some bs) := Lib.hid (fun e => by have he : W2.heap.size = bs := Option.some.inj e; omega)
  clear hv3 hb3 HCV HS1 HB1 HS2 HB2 hbs hbs1 hbs2
  generalize Lib.bytesWorld W2 5 ⟨L.toArray⟩ = W3 at *
  obtain ⟨n1, hn1⟩ : ∃ n1, n1 = L.length := ⟨_, rfl⟩
  obtain ⟨v3, hv3⟩ : ∃ v3, v3 = Value.slice (some ⟨W2.heap.size, 0, none⟩) L.length (grownCap W2 L.length 0 5) := ⟨_, rfl⟩
  rw [← hv3] at HM HNE
  rw [← hv3]
  clear hv3 hn1
  go_loopw [4] (fun i wr => ∃ k : Nat, k ≤ 1000 ∧ i = .int .i64 k ∧ NmM w wr bs v3 L k) (fun i _ => 1000 - (intOf i).toNat)
  case atStart => exact ⟨0, by omega, rfl, HM.out⟩
  case round =>
    obtain ⟨k, hk, rfl, hm⟩ := hrel
    have HM1 := Lib.hid hm
    clear hm HM
    by_cases hlt : k < 1000
    · as_aux_lemma =>
        have hlti : (k : Int) < 1000 := by omega
        go_wp2_with fail
        refine (write_any bs _ L v3 wr HM1.out.sum (Sha.mid_letters _ (by omega)) HM1.out.piece HNE.out (by rw [HLL.out, List.length_replicate]; omega)).mono ?_
        rintro e W4 ⟨rfl, hs4, hg4⟩
        have HM4 := Lib.hid (HM1.out.write HL.out HNE.out hs4 hg4)
        clear hs4 hg4
        go_wp2_with fail
        exact ⟨⟨k + 1, by omega, by go_num, HM4.out⟩, by simp [intOf]; omega⟩
    · have hk2 : k = 1000 := by omega
      subst hk2
      obtain ⟨M, hM⟩ : ∃ M, M = List.replicate 1000000 (97 : UInt8) := ⟨_, rfl⟩
      have HSM : Hid (SumAt wr bs M) := Lib.hid (by rw [hM]; exact HM1.out.sum)
      have HXM : Hid (hexL (Sha.hash M) = hexMill) := Lib.hid (by rw [hM]; exact hex_million)
      have HML : Hid (M.length = 1000000) := Lib.hid (by rw [hM, List.length_replicate])
      have HMZ : Hid (Sha.mid M ≠ Sha.St.zero) := Lib.hid (by rw [hM]; exact Sha.mid_letters _ (Nat.le_refl _))
      clear hM
      have HWB := Lib.hid HM1.out.below
      clear HM1 HNE HL HLL
      have hcv := fun (W : World) (C : Array Value) (n c : Nat) => Lib.run_convert_bytes_const (P := Try.prog) W 25 5 C n c Try.underlying25 Try.underlying5
      go_wp2_with fail
      have hb4 : Below wr.heap.size wr (wr.alloc (.cells (bytesA hello) 5 (5, 6))) := (Below.refl _ _).alloc (Nat.le_refl _) _
      have hv4 : BytesAt (wr.alloc (.cells (bytesA hello) 5 (5, 6))) (.slice (some ⟨wr.heap.size, 0, none⟩) 5 5) hello := bytesAt_row (l := hello) (heap_alloc_new wr _) 5 (Nat.le_refl _) (by unfold maxLen; omega)
      refine (of_any _ hello _ hv4 (by decide)).mono ?_
      rintro e W4 ⟨rfl, hb5⟩
      have HS4 := Lib.hid ((HSM.out.below hb4).below hb5)
      have HB4 := Lib.hid (HWB.out.trans ((hb4.trans (hb5.mono hb4.size)).mono HWB.out.size))
      clear hb4 hv4 hb5 HSM HWB
      go_wp2_with ((with_reducible refine wpList_store_row ?_ 28 (.tmp 5) (.tmp 24) ?_ W4.heap.size (bytesA (Sha.hash hello)) ?_ ?_ 28 _ (heap_alloc_new W4 _) ?_ ?_ ?_ ?_);  (next => rfl); (next => rfl); (next => rfl); (next => rfl); (next => rw [size_bytesA, hash_length]; kernel_rfl); (next => rw [size_bytesA, hash_length]; rfl); (next => exact all_bytes _); rw [World.setRow_alloc_new])
      have HD : Hid ((W4.alloc (.cells (bytesA (Sha.hash hello)) 28)).heap[W4.heap.size]? = some (.cells (bytesA (Sha.hash hello)) 28 (0, 0))) := Lib.hid (heap_alloc_new _ _)
      have hb6 : Below W4.heap.size W4 (W4.alloc (.cells (bytesA (Sha.hash hello)) 28)) := (Below.refl _ _).alloc (Nat.le_refl _) _
      have HS5 := Lib.hid (HS4.out.below hb6)
      have HB5 := Lib.hid (HB4.out.trans (hb6.mono HB4.out.size))
      clear hb6 HS4 HB4
      obtain ⟨D, hDe⟩ : ∃ D, D = W4.heap.size := ⟨_, rfl⟩
      rw [← hDe] at HD
      rw [← hDe]
      clear hDe
      generalize W4.alloc (.cells (bytesA (Sha.hash hello)) 28) = W5 at *
      refine reg9 bs D longL M W5 _ _ (by decide) hex_long HXM.out HML.out HMZ.out HS5.out HD.out rfl rfl rfl rfl ?_
      intro vals W6 h29 hb6
      have HB6 := Lib.hid (HB5.out.trans (hb6.mono HB5.out.size))
      clear hb6 HB5 HS5 HD HXM HML HMZ
      rw [put9, h29]
      simp only [Act.put, List.setIfInBounds_toArray, List.set_cons_zero, List.set_cons_succ]
      go_wp2_with fail
      refine (roots_any W6).mono ?_
      rintro e W7 ⟨v0, v1, rfl, ho0, ho1, hb7⟩
      obtain ⟨gs, cs, rfl, hsq⟩ := ho0.inn (by decide)
      obtain ⟨gc, cc, rfl, hcu⟩ := ho1.inn (by decide)
      have HSQ := Lib.hid hsq
      have HCU := Lib.hid hcu
      have HB7 := Lib.hid (HB6.out.trans (hb7.mono HB6.out.size))
      clear ho0 ho1 hsq hcu hb7
      rw [show Sha.iv.list.length = 8 from rfl, show Sha.K.length = 64 from rfl]
      go_wp2_with fail
      refine (ref_square W7).mono ?_
      rintro e W8 ⟨g8, c8, rfl, hq8, hb8⟩
      have HQ8 := Lib.hid hq8
      have HSQ8 := Lib.hid (HSQ.out.below hb8)
      have HCU8 := Lib.hid (HCU.out.below hb8)
      have HB8 := Lib.hid (HB7.out.trans (hb8.mono HB7.out.size))
      clear hq8 hb8
      go_wp2_with fail
      refine (words_same gs cs g8 c8 Sha.iv.list W8 (by decide) HSQ8.out HQ8.out).mono ?_
      rintro e W9 ⟨rfl, hb9⟩
      have HCU9 := Lib.hid (HCU8.out.below hb9)
      have HB9 := Lib.hid (HB8.out.trans (hb9.mono HB8.out.size))
      clear hb9
      go_wp2_with fail
      refine (ref_cube W9).mono ?_
      rintro e Wa ⟨ga, ca, rfl, hqa, hba⟩
      have HQA := Lib.hid hqa
      have HCUA := Lib.hid (HCU9.out.below hba)
      have HBA := Lib.hid (HB9.out.trans (hba.mono HB9.out.size))
      clear hqa hba
      go_wp2_with fail
      refine (words_same gc cc ga ca Sha.K Wa (by decide) HCUA.out HQA.out).mono ?_
      rintro e Wb ⟨rfl, hbb⟩
      have HBB := Lib.hid (HBA.out.trans (hbb.mono HBA.out.size))
      clear hbb
      go_wp2_with fail
      have hbz : Below Wb.heap.size Wb (Wb.alloc (.cells (sumA (zeroW 8) (.slice none 0 0) 0) 113)) := (Below.refl _ _).alloc (Nat.le_refl _) _
      have hzz : (Wb.alloc (.cells (sumA (zeroW 8) (.slice none 0 0) 0) 113)).heap[Wb.heap.size]? = some (.cells (sumA (zeroW 8) (.slice none 0 0) 0) 113 (0, 0)) := heap_alloc_new _ _
      change Calls Try.prog 26 #[] (Wb.alloc (.cells (sumA (zeroW 8) (.slice none 0 0) 0) 113)) _
      have HBZ := Lib.hid (HBB.out.trans (hbz.mono HBB.out.size))
      obtain ⟨Z, hZ⟩ : ∃ Z, Z = Wb.heap.size := ⟨_, rfl⟩
      rw [← hZ] at hzz
      rw [← hZ]
      clear hZ hbz
      generalize Wb.alloc (.cells (sumA (zeroW 8) (.slice none 0 0) 0) 113) = Wc at *
      refine (first_any Wc).mono ?_
      rintro e Wd ⟨rfl, hbd⟩
      have HZD := Lib.hid (block_below' hbd hzz)
      have HBD := Lib.hid (HBZ.out.trans (hbd.mono HBZ.out.size))
      clear hbd hzz
      go_wp2_with fail
      have hbe : Below Wd.heap.size Wd (Wd.alloc (.cells #[.int .u8 97] 5 (1, 2))) := (Below.refl _ _).alloc (Nat.le_refl _) _
      have HBE := Lib.hid (HBD.out.trans (hbe.mono HBD.out.size))
      have HZE := Lib.hid (block_below' hbe HZD.out)
      refine (write_nil _ _).mono ?_
      rintro e Wf ⟨rfl, hbf⟩
      have HBF := Lib.hid (HBE.out.trans (hbf.mono HBE.out.size))
      have HZF := Lib.hid (block_below' hbf HZE.out)
      clear hbe hbf HBE HZE
      go_wp2_with fail
      refine (len_nil _).mono ?_
      rintro e w' ⟨rfl, rfl⟩
      go_wp2_with fail
      refine (end_nil _).mono ?_
      rintro e Wg ⟨rfl, hbg⟩
      have HBG := Lib.hid (HBF.out.trans (hbg.mono HBF.out.size))
      have HZG := Lib.hid (block_below' hbg HZF.out)
      clear hbg
      have heq := fun W => eql28z W
      have heg := fun x y A B W => eg28 x y A B W
      go_wp2_with fail
      refine (copy_nil _).mono ?_
      rintro e w' ⟨rfl, rfl⟩
      go_wp2_with fail
      refine (end_raw Z (zeroW 8) rfl rfl (.slice none 0 0) 0 Wg HZG.out).mono ?_
      rintro e Wh ⟨rfl, hbh⟩
      have HBH := Lib.hid (HBG.out.trans (hbh.mono HBG.out.size))
      clear hbh
      go_wp2_with fail
      go_ret
      exact ⟨rfl, HBH.out⟩
end Go.Proofs.Ytdecbimklomdjaa
