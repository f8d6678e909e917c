/- The walk of the statement SumBursts: it returns true. -/
import Derived.Test.YthfbjgdigdlliaaBurstM
import Derived.Test.YthfbjgdigdlliaaBytes
import Derived.Test.YthfbjgdigdlliaaSumJoinsW
namespace Go.Proofs.Ythfbjgdigdlliaa.SumBursts
open Go.RowKit Go.Proofs.Ythfbjgdigdlliaa.Uw Go.Proofs.Ythfbjgdigdlliaa.Sum Go.Proofs.Ythfbjgdigdlliaa.Sip Go.Proofs.Ythfbjgdigdlliaa.Bey Go.Proofs.Ythfbjgdigdlliaa.Alive Go.Proofs.Ythfbjgdigdlliaa.SumHashes Go.Proofs.Ythfbjgdigdlliaa.SumBytes Go.Proofs.Ythfbjgdigdlliaa.Byt Go.Proofs.Ythfbjgdigdlliaa.Pin
attribute [local go_sem high] run_eql run_neq eqGuard_U

theorem and1U (P : Program) (t : TypeId) (w : World) (a : BitVec 64) : (binOp .and t (U a) (.int .u64 1)).run P w = .ok (U (a &&& 1#64)) w := run_and P t w a 1#64
theorem eq1U (P : Program) (t : TypeId) (w : World) (a : BitVec 64) : (binOp .eql t (U a) (.int .u64 1)).run P w = .ok (.bool (a == 1#64)) w := run_eql P t w a 1#64
theorem eq0U (P : Program) (t : TypeId) (w : World) (a : BitVec 64) : (binOp .eql t (U a) (.int .u64 0)).run P w = .ok (.bool (a == 0#64)) w := run_eql P t w a 0#64
attribute [local go_sem high] and1U eq1U eq0U
theorem bit_eq (t : BitVec 64) (i : Nat) : ((t >>> i &&& 1#64) == 1#64) = t.getLsbD i := by
  rw [and_one]
  have : (t >>> i).getLsbD 0 = t.getLsbD i := by simp
  rw [this]
  cases t.getLsbD i <;> rfl
theorem pow_bit (r : Nat) (hr : r < 8) : ((2 : Int) ^ r % 256) = ((bit8 r).toNat : Int) := by
  have : r = 0 ∨ r = 1 ∨ r = 2 ∨ r = 3 ∨ r = 4 ∨ r = 5 ∨ r = 6 ∨ r = 7 := by omega
  rcases this with rfl | rfl | rfl | rfl | rfl | rfl | rfl | rfl <;> rfl
theorem xor_bit (x : UInt8) (r : Nat) (hr : r < 8) : bits .xor .u8 (x.toNat : Int) ((2 : Int) ^ r % 256) = ((x ^^^ bit8 r).toNat : Int) := by
  rw [pow_bit r hr, u8_xor_nat _ _ x.toNat_lt (bit8 r).toNat_lt, UInt8.toNat_xor]
/-- the world behind '[]byte(s)', its bytes to be written -/
theorem bytes_own (w : World) (s : ByteArray) : ∃ W C, Lib.bytesWorld w 5 s = W ∧ grownCap w s.size 0 5 = C ∧ Bytes W w.heap.size s.data.toList ∧ Below w.heap.size w W := by
  refine ⟨_, _, rfl, rfl, fun j h => ⟨?_, ?_⟩, ⟨rfl, rfl, rfl, by rw [Lib.bytesWorld_size]; omega, fun k hk => Lib.bytesWorld_at_old w _ s k hk⟩⟩
  · rw [Lib.bytesWorld_cell w _ s j (by simpa using h)]
    simp at h
    simp [List.getD, h]
  · have hg := Lib.bytesWorld_at_new w 5 s
    have hl : j < (Lib.bytesCells w 5 s).size := by
      unfold Lib.bytesCells
      rw [Array.size_append]
      rw [Array.length_toList] at h
      have e : s.data.size = s.size := rfl
      simp
      omega
    simp [World.frozen?, hg]
    omega

set_option maxHeartbeats 2000000 in
set_option maxRecDepth 100000 in
theorem walk0 (s : ByteArray) (at' : Nat) (t : BitVec 64) (w : World) (hs : s.size ≤ 140737488351232) (ha : at' < 4294967296) :
    Calls Try.prog 6 #[.string s, .int .u32 (at' : Int), U t] w fun e w' => e = .returned (.bool true) ∧ Below w.heap.size w w' := by
  have HR := Lib.hid hs
  have HB := Lib.hid (beyond_one s.size)
  by_cases hbig : 1048576 < s.size
  · have H1 := Lib.hid (one_big _ hbig)
    go_enter Try.func6, Try.ntmps6
    go_wp2_with fail
    refine (alive_any w).mono ?_
    rintro e w1 ⟨rfl, b1⟩
    go_wp2_with fail
    refine (HB.out w1 HR.out).mono ?_
    rintro e w' ⟨rfl, rfl⟩
    rw [H1.out]
    have b2 := b1.trans (((Below.refl _ w1).alloc (Nat.le_refl _) (.cells #[.int .i64 (s.size : Int)] 3)).mono b1.size)
    go_wp2_with fail
    refine (alive_any _).mono ?_
    rintro e w3 ⟨rfl, b3⟩
    go_wp2_with fail
    go_ret
    exact ⟨rfl, b2.trans (b3.mono b2.size)⟩
  · have H1 := Lib.hid (one_small _ hbig)
    by_cases h0 : s.size = 0 ∨ t = 0#64
    · by_cases hz : s.size = 0
      · have hn0 : ((s.size : Int) == 0) = true := by rw [beq_iff_eq]; omega
        go_enter Try.func6, Try.ntmps6
        go_wp2_with fail
        refine (alive_any w).mono ?_
        rintro e w1 ⟨rfl, b1⟩
        have HZ := Lib.hid hz
        clear hz
        go_wp2_with fail
        refine (HB.out w1 HR.out).mono ?_
        rintro e w' ⟨rfl, rfl⟩
        rw [H1.out]
        have b2 := b1.trans (((Below.refl _ w1).alloc (Nat.le_refl _) (.cells #[.int .i64 (s.size : Int)] 3)).mono b1.size)
        go_wp2_with fail
        refine (alive_any _).mono ?_
        rintro e w3 ⟨rfl, b3⟩
        go_wp2_with fail
        go_ret
        exact ⟨rfl, b2.trans (b3.mono b2.size)⟩
      · have hn0 : ((s.size : Int) == 0) = false := by rw [beq_eq_false_iff_ne]; omega
        have ht0 : (t == 0#64) = true := by rw [beq_iff_eq]; exact h0.resolve_left hz
        clear h0
        go_enter Try.func6, Try.ntmps6
        go_wp2_with fail
        refine (alive_any w).mono ?_
        rintro e w1 ⟨rfl, b1⟩
        go_wp2_with fail
        refine (HB.out w1 HR.out).mono ?_
        rintro e w' ⟨rfl, rfl⟩
        rw [H1.out]
        have b2 := b1.trans (((Below.refl _ w1).alloc (Nat.le_refl _) (.cells #[.int .i64 (s.size : Int)] 3)).mono b1.size)
        go_wp2_with fail
        refine (alive_any _).mono ?_
        rintro e w3 ⟨rfl, b3⟩
        go_wp2_with fail
        go_ret
        exact ⟨rfl, b2.trans (b3.mono b2.size)⟩
    · have hn0 : ((s.size : Int) == 0) = false := by rw [beq_eq_false_iff_ne]; omega
      have ht0 : (t == 0#64) = false := by rw [beq_eq_false_iff_ne]; exact fun e => h0 (.inr e)
      have hpos : 0 < s.size := by omega
      go_enter Try.func6, Try.ntmps6
      go_wp2_with fail
      refine (alive_any w).mono ?_
      rintro e w1 ⟨rfl, b1⟩
      go_wp2_with fail
      refine (HB.out w1 HR.out).mono ?_
      rintro e w' ⟨rfl, rfl⟩
      rw [H1.out]
      have b2 := b1.trans (((Below.refl _ w1).alloc (Nat.le_refl _) (.cells #[.int .i64 (s.size : Int)] 3)).mono b1.size)
      obtain ⟨W, hW⟩ : ∃ W, W = w1.alloc (.cells #[.int .i64 (s.size : Int)] 3) := ⟨_, rfl⟩
      rw [← hW] at b2 ⊢
      clear hW b1
      go_wp2_with fail
      rw [conv_bytes]
      obtain ⟨W2, C, hconv, hcap, hby, hbl⟩ := bytes_own W s
      rw [hconv, hcap]
      have HBY := Lib.hid hby
      have B2 := Lib.hid (b2.trans (hbl.mono b2.size))
      have hgW := b2.size
      clear hconv hcap hby hbl
      obtain ⟨f, hf⟩ : ∃ f : Nat, f = at' % (8 * s.size) := ⟨_, rfl⟩
      have hf' : ((at' : Int) % (8 * (s.size : Int))) = (f : Int) := by rw [hf, Int.natCast_emod, Int.natCast_mul]; rfl
      have hfl : f < 8 * s.size := by rw [hf]; exact Nat.mod_lt _ (by omega)
      clear hf
      have hne : ¬ (8 * (s.size : Int)) = 0 := by omega
      go_wp2_with fail
      rw [hf']
      go_loopw [9, 10] (fun sm i wr => ∃ (k : Nat) (acc : BitVec 64) (l : List UInt8), k ≤ 64 ∧ i = .int .i64 k ∧ sm = .bool (acc != 0#64) ∧ Hid (l.length = s.size) ∧ Hid (crcT 0#64 l = crcT 0#64 s.data.toList ^^^ citer (8 * l.length - f) acc) ∧ Hid (∀ j, k ≤ j → acc.getLsbD j = false) ∧ Hid (Bytes wr W.heap.size l) ∧ Hid (Below w.heap.size w wr)) (fun _ i _ => 64 - (intOf i).toNat)
      case atStart => exact ⟨0, 0#64, s.data.toList, by omega, rfl, rfl, Lib.hid (by rw [Array.length_toList]; rfl), Lib.hid (by rw [citer_zero]; simp), Lib.hid (by simp), HBY, B2⟩
      case round =>
        obtain ⟨k, acc, l, hk, rfl, rfl, HL, HC, HA, HY, HW⟩ := hrel
        clear HBY B2
        by_cases hlt : k < 64
        · have hshr : ∀ w : World, (binOp .shr 22 (U t) (.int .i64 (k : Int))).run Try.prog w = .ok (U (t >>> k)) w := fun w => run_shr Try.prog 22 w k .i64 t (by omega)
          obtain ⟨n, hn⟩ : ∃ n, n = f + k := ⟨_, rfl⟩
          have hn' : ((f : Int) + (k : Int)) = (n : Int) := by omega
          have HN := Lib.hid hn
          have hnb : n < 140737488351232 * 8 + 64 := by omega
          clear hn
          by_cases hbit : t.getLsbD k = true
          · have hb1 : ((t >>> k &&& 1#64) == 1#64) = true := by rw [bit_eq]; exact hbit
            by_cases hin : n < 8 * s.size
            · have hq : n / 8 < l.length := by rw [HL.out]; omega
              obtain ⟨hcl, hfz⟩ := HY.out (n / 8) hq
              obtain ⟨x, hx⟩ : ∃ x, x = l[n / 8] := ⟨_, rfl⟩
              rw [← hx] at hcl
              have HX := Lib.hid hx
              clear hx
              have hin' : (n : Int) < 8 * (s.size : Int) := by omega
              have hquo : IntKind.i64.wrap ((n : Int).tdiv 8) = (n : Int) / 8 := by rw [Int.tdiv_eq_ediv_of_nonneg (by omega), IntKind.wrap_i64]; omega
              have hquo' : IntKind.i64.wrap ((n : Int) / 8) = (n : Int) / 8 := by rw [IntKind.wrap_i64]; omega
              have htm : (n : Int).tmod 8 = (n : Int) % 8 := Int.tmod_eq_emod_of_nonneg (by omega)
              have hp0 : (0 : Int) ≤ (n : Int) / 8 := by omega
              have hp1 : (n : Int) / 8 < (s.size : Int) := by omega
              have hp2 : ((n : Int) / 8).toNat = n / 8 := by omega
              go_wp2_with fail
              refine wp_region_pin [0,0,0,0,0,0,0,1,0,0,0,0,0,2] (by kernel_rfl) (by kernel_rfl) ?_
              (refine pin_pure (fun K hK => ?_); go_simp; refine hK _ _ ?_; clear hK K)
              (refine pin_pure (fun K hK => ?_); go_simp; refine hK _ _ ?_; clear hK K)
              (refine pin_pure (fun K hK => ?_); go_simp; refine hK _ _ ?_; clear hK K)
              (refine pin_pure (fun K hK => ?_); go_simp; refine hK _ _ ?_; clear hK K)
              (refine pin_pure (fun K hK => ?_); go_simp; refine hK _ _ ?_; clear hK K)
              (refine pin_pure (fun K hK => ?_); go_simp; refine hK _ _ ?_; clear hK K)
              (refine pin_pure (fun K hK => ?_); go_simp; refine hK _ _ ?_; clear hK K)
              (refine pin_read (fun K hK => ?_); go_simp; refine hK _ _ ?_; clear hK K)
              (refine pin_pure (fun K hK => ?_); go_simp; refine hK _ _ ?_; clear hK K)
              (refine pin_pure (fun K hK => ?_); go_simp; refine hK _ _ ?_; clear hK K)
              (refine pin_pure (fun K hK => ?_); go_simp; refine hK _ _ ?_; clear hK K)
              (refine pin_pure (fun K hK => ?_); go_simp; refine hK _ _ ?_; clear hK K)
              (refine pin_pure (fun K hK => ?_); go_simp; refine hK _ _ ?_; clear hK K)
              (refine pin_write (fun K hK => ?_); go_simp; refine fun nw => ⟨_, ⟨_, rfl⟩, hK _ _ ?_⟩; clear hK K)
              refine pin_nil ?_
              intro nq
              go_wp2_with fail
              go_roundw
              case measure => simp [intOf]; omega
              case rel =>
                have hah := acc_high HA.out hlt
                refine ⟨k + 1, acc ^^^ (1#64 <<< k), l.set (n / 8) (l[n / 8]'hq ^^^ bit8 (n % 8)), by omega, by go_num, ?_, Lib.hid (by rw [List.length_set]; exact HL.out), Lib.hid ?_, Lib.hid hah.2, Lib.hid ?_, Lib.hid ?_⟩
                · rw [bne_iff_ne.2 hah.1]
                · rw [List.length_set]
                  exact burst_step 0#64 l _ acc f k n HN.out hlt (by rw [HL.out]; omega) hq HC.out
                · rw [← HX.out, xor_bit x (n % 8) (Nat.mod_lt _ (by decide))]
                  exact (HY.out.set hq (x ^^^ bit8 (n % 8))).drewN _
                · exact below_drewN (HW.out.setCell hgW _) _
            · have hin' : ¬ (n : Int) < 8 * (s.size : Int) := by omega
              go_wp2_with fail
              exact ⟨⟨k + 1, acc, l, by omega, by go_num, rfl, HL, HC, Lib.hid (fun j hj => HA.out j (by omega)), HY, HW⟩, by simp [intOf]; omega⟩
          · have hb1 : ((t >>> k &&& 1#64) == 1#64) = false := by rw [bit_eq]; simpa using hbit
            go_wp2_with fail
            exact ⟨⟨k + 1, acc, l, by omega, by go_num, rfl, HL, HC, Lib.hid (fun j hj => HA.out j (by omega)), HY, HW⟩, by simp [intOf]; omega⟩
        · have hcv := HY.out.str C
          rw [HL.out] at hcv
          have HF := Lib.hid (burst_end HC.out)
          go_wp2_with fail
          have hlm : (⟨l.toArray⟩ : ByteArray).size ≤ maxLen := by
            show l.toArray.size ≤ maxLen
            rw [List.size_toArray, HL.out]; unfold maxLen; omega
          refine (crc_any ⟨l.toArray⟩ _ hlm).mono ?_
          rintro e w3 ⟨rfl, b3⟩
          replace b3 := HW.out.trans (b3.mono HW.out.size)
          go_wp2_with fail
          refine (crc_any s _ (by unfold maxLen; omega)).mono ?_
          rintro e w4 ⟨rfl, b4⟩
          replace b4 := b3.trans (b4.mono b3.size)
          clear b3
          go_wp2_with fail
          go_ret
          exact ⟨by rw [HF.out]; rfl, b4⟩

theorem wf_u32 {s : Int} (hw : (Lit.int .u32 s).wf = true) : 0 ≤ s ∧ s < 4294967296 := by
  simp only [Lit.wf, IntKind.min, IntKind.max, IntKind.signed, IntKind.bits, Bool.and_eq_true] at hw
  simp at hw
  omega
theorem walk (s : ByteArray) (hs : s.size ≤ 140737488351232) (a : Int) (ha : (Lit.int .u32 a).wf = true) (t : Int) (ht : (Lit.int .u64 t).wf = true) (w : World) :
    Calls Try.prog 6 #[.string s, .int .u32 a, .int .u64 t] w fun e w' => e = .returned (.bool true) ∧ Below w.heap.size w w' := by
  obtain ⟨h0, h1⟩ := wf_u32 ha
  obtain ⟨n, rfl⟩ := Int.eq_ofNat_of_zero_le h0
  rw [U_int t (wf_u64 ht)]
  exact walk0 s n _ w hs (by omega)
end Go.Proofs.Ythfbjgdigdlliaa.SumBursts
