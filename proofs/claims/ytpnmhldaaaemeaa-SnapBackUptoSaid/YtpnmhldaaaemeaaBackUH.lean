import Derived.Test.YtpnmhldaaaemeaaMa21
import Derived.Test.YtpnmhldaaaemeaaRows
import Derived.Test.YtpnmhldaaaemeaaProg
import Derived.KernelRfl
import Derived.Test.YtpnmhldaaaemeaaMa22
import Derived.JoinedCond
import Derived.OpenShut
import Derived.Lib.SmallJoins
/- Chapter 24's laws: Encode of any items, and the sizes at a law's head. -/
namespace Go.Proofs.Ytpnmhldaaaemeaa.Snp
open Go.RowKit Go.Proofs.Ytpnmhldaaaemeaa.Pin
/-- items of a law -/
structure Its (w : World) (v : Value) (l : List It) : Prop where
  at_ : ItemsAt w w.heap.size v l
  len : l.length ≤ 140737488351232
  vab : ∀ it ∈ l, VaB it.val
  ids : ∀ it ∈ l, IdsB it.val
  itt : ∀ it ∈ l, ItT it
theorem Its.below {w w' : World} {v : Value} {l : List It} (h : Its w v l) (hb : Below w.heap.size w w') : Its w' v l := ⟨(h.at_.below hb).more hb.size, h.len, h.vab, h.ids, h.itt⟩
noncomputable def encS (l : List It) : List UInt8 := if pb (CheckP l) = true then encB l else []
theorem encS_yes {l : List It} (h : CheckP l) : encS l = encB l := by unfold encS; rw [pb_true h]; rfl
theorem encS_no {l : List It} (h : ¬ CheckP l) : encS l = [] := by unfold encS; rw [pb_false h]; rfl
theorem Its.enc {w : World} {v : Value} {l : List It} (h : Its w v l) (hs : szBy szIt l ≤ 1048576) :
    Calls Try.prog 13 #[v] w fun e w' => e = .returned (.tuple #[.string ⟨(encS l).toArray⟩, .int .i64 (eno (CheckP l))]) ∧ Below w.heap.size w w' := by
  by_cases hc : CheckP l
  · rw [encS_yes hc, eno_yes hc]
    exact enc_yes l v w h.at_ h.len h.vab h.ids (by have := enc_len l; omega) hc
  · rw [encS_no hc, eno_no hc]
    exact enc_no l v w h.at_ h.len h.vab hc
theorem Its.check {w : World} {v : Value} {l : List It} (h : Its w v l) : Calls Try.prog 10 #[v] w fun e w' => e = .returned (.int .i64 (eno (CheckP l))) ∧ Below w.heap.size w w' := check_any l v w h.at_ h.len h.vab
theorem Its.size {w : World} {v : Value} {l : List It} (h : Its w v l) : Sized 9 #[v] w 4503599627370496 (szBy szIt l) := sz_items l v w h.at_ h.len h.vab h.itt
theorem Its.ok {w : World} {v : Value} {l : List It} (h : Its w v l) (hc : CheckP l) : ∀ it ∈ l, ItOk it := ok_all hc h.vab h.ids
/-- Decode where nothing is read -/
theorem decode_no {s : List UInt8} (hd : decP s = none) (w : World) (hs : s.length ≤ 549755813888) : Calls Try.prog 14 #[.string ⟨s.toArray⟩] w fun e w' => e = .returned (.tuple #[.slice none 0 0, .int .i64 4]) ∧ Below w.heap.size w w' :=
  (decode_any s w hs).mono fun e w' ⟨h1, h2⟩ => by rw [hd] at h2; exact ⟨h2, h1⟩
theorem decode_yes {s : List UInt8} {l : List It} (hd : decP s = some l) (w : World) (hs : s.length ≤ 549755813888) : Calls Try.prog 14 #[.string ⟨s.toArray⟩] w fun e w' => (∃ v, e = .returned (.tuple #[v, .int .i64 0]) ∧ ItemsAt w' w'.heap.size v l) ∧ Below w.heap.size w w' :=
  (decode_any s w hs).mono fun e w' ⟨h1, h2⟩ => by
    rw [hd] at h2
    obtain ⟨v, rfl, h⟩ := h2
    exact ⟨⟨v, rfl, items_at h⟩, h1⟩
end Go.Proofs.Ytpnmhldaaaemeaa.Snp
/- The walk of SnapBack: it answers true. -/
namespace Go.Proofs.Ytpnmhldaaaemeaa.Snp
open Go.RowKit Go.Proofs.Ytpnmhldaaaemeaa.Pin
/-- the number that the last bytes of a text say, from the last one on -/
def tailN (s : List UInt8) : Nat → Nat
  | 0 => 0
  | k + 1 => (256 * tailN s k + (s.getD (s.length - (k + 1)) 0).toNat) % 18446744073709551616
theorem tailN_low (s : List UInt8) : ∀ k, k ≤ 8 → k ≤ s.length → tailN s k = lowN (s.drop (s.length - k))
  | 0, _, _ => by rw [Nat.sub_zero, List.drop_length]; rfl
  | k + 1, h8, hl => by
    have ih := tailN_low s k (by omega) (by omega)
    have hlt := lowN_lt (s.drop (s.length - k))
    have hd : s.drop (s.length - (k + 1)) = s[s.length - (k + 1)]'(by omega) :: s.drop (s.length - k) := by
      rw [List.drop_eq_getElem_cons (by omega), show s.length - (k + 1) + 1 = s.length - k by omega]
    rw [List.length_drop, show s.length - (s.length - k) = k by omega] at hlt
    have hp : 256 ^ k ≤ 256 ^ 7 := Nat.pow_le_pow_right (by decide) (by omega)
    have h7 : (256 : Nat) ^ 7 = 72057594037927936 := by decide
    rw [tailN, ih, hd, lowN]
    have hb := (s[s.length - (k + 1)]'(by omega)).toNat_lt
    rw [List.getD_eq_getElem?_getD, List.getElem?_eq_getElem (by omega), Option.getD_some, Nat.mod_eq_of_lt (by omega)]
    omega
theorem tailN_lt (s : List UInt8) (k : Nat) : tailN s k < 18446744073709551616 := by
  cases k with
  | zero => show 0 < 18446744073709551616; omega
  | succ k => exact Nat.mod_lt _ (by omega)
theorem cat_one (s : List UInt8) (x : UInt8) : (⟨s.toArray⟩ : ByteArray) ++ ⟨#[x]⟩ = ⟨(s ++ [x]).toArray⟩ := by
  apply ByteArray.ext
  simp [ByteArray.data_append]
set_option maxHeartbeats 8000000 in
set_option maxRecDepth 100000 in
theorem back_walk (l : List It) (v : Value) (cut : Nat) (more : Nat) (w : World) (hl : Its w v l) (hcu : cut < 4294967296) (hmo : more < 256) :
    Calls Try.prog 4 #[v, .int .u32 (cut : Int), .int .u8 (more : Int)] w fun e w' => e = .returned (.bool true) ∧ Below w.heap.size w w' := by
  have HL := Lib.hid hl
  have HCU := Lib.hid hcu
  have HMO := Lib.hid hmo
  clear hl hcu hmo
  go_enter Try.func4, Try.ntmps4
  go_wp2_with fail
  refine (alive_any _).mono ?_
  rintro e w1 ⟨rfl, hb1⟩
  have HB1 := Lib.hid hb1
  clear hb1
  go_wp2_with fail
  refine ((HL.out.below HB1.out).size).mono ?_
  rintro e w3 ⟨n1, rfl, hn1, hs1, hb2⟩
  have HB3 := Lib.hid (HB1.out.trans (hb2.mono HB1.out.size))
  have HN1 := Lib.hid hn1
  have HS1 := Lib.hid hs1
  clear hb2 hn1 hs1
  go_wp2_with fail
  have hcl : ∀ j (h : j < [(n1 : Int)].length), (w3.alloc (.cells #[.int .i64 (n1 : Int)] 3)).cell? ⟨w3.heap.size, j, none⟩ = some (.int .i64 [(n1 : Int)][j]) := by
    intro j hj
    have : j = 0 := by simpa using hj
    subst this
    simp
  have HB4 : Hid (Below w.heap.size w (w3.alloc (.cells #[.int .i64 (n1 : Int)] 3))) := Lib.hid (HB3.out.alloc HB3.out.size _)
  refine (Bey.beyond_any [(n1 : Int)] 1 w3.heap.size _ (by simp) (by intro x hx; obtain rfl := List.mem_singleton.1 hx; have := HN1.out; omega) hcl).mono ?_
  rintro e w4 ⟨rfl, rfl⟩
  cases hq : Bey.beyond 0 [(n1 : Int)] with
  | true =>
    clear hcl hq
    go_wp2_with fail
    refine (alive_any _).mono ?_
    rintro e w3 ⟨rfl, hb3⟩
    have HB3 := Lib.hid (HB4.out.trans (hb3.mono HB4.out.size))
    clear hb3
    go_wp2_with fail
    go_ret
    exact ⟨rfl, HB3.out⟩
  | false =>
    have hle : n1 ≤ 1048576 := by
      have h := hq
      simp only [Bey.beyond, Int.zero_add] at h
      split at h
      · cases h
      · omega
    have HZ1 : Hid (szBy szIt l ≤ 1048576) := Lib.hid (by have h1 := HS1.out hle; omega)
    obtain ⟨W2, hW2⟩ : ∃ W2, W2 = w3.alloc (.cells #[.int .i64 (n1 : Int)] 3) := ⟨_, rfl⟩
    rw [← hW2] at HB4 ⊢
    clear hcl hq hW2 HB1 HB3 hle HN1 HS1
    go_wp2_with fail
    refine ((HL.out.below HB4.out).enc HZ1.out).mono ?_
    rintro e w5 ⟨rfl, hb5⟩
    have HB5 := Lib.hid (HB4.out.trans (hb5.mono HB4.out.size))
    clear hb5
    have HCK := Lib.hid (fun (W : World) (hW : Below w.heap.size w W) => (HL.out.below hW).check)
    by_cases hc : CheckP l
    · rw [encS_yes hc, eno_yes hc]
      rw [eno_yes hc] at HCK
      have hel := enc_len l
      have hz1 := HZ1.out
      obtain ⟨s, hs⟩ : ∃ s, s = encB l := ⟨_, rfl⟩
      rw [← hs] at hel ⊢
      obtain ⟨sn, hsn⟩ : ∃ sn, sn = s.length := ⟨_, rfl⟩
      have hpos : 19 ≤ sn := by
        rw [hsn, hs, enc_eq hc]
        have := itemsE_len l
        simp only [List.length_append, magic_len, leB_len]
        omega
      have q1 := size_of s
      rw [← hsn] at q1
      obtain ⟨k, hk⟩ : ∃ k, k = cut % sn := ⟨_, rfl⟩
      have hkl : k < sn := by rw [hk]; exact Nat.mod_lt _ (by omega)
      have q2 : IntKind.i64.wrap (cut : Int) = (cut : Int) := by rw [IntKind.wrap_i64]; have := HCU.out; omega
      have q3 : ¬ (sn : Int) = 0 := by omega
      have q4 : (cut : Int).tmod (sn : Int) = (k : Int) := by rw [hk]; rfl
      have q5 : (⟨s.toArray⟩ : ByteArray).extract 0 k = ⟨(s.take k).toArray⟩ := ext_take s k
      have q6 : k ≤ sn := by omega
      have HD1 := Lib.hid (decode_yes (s := s) (by rw [hs]; exact decP_enc (HL.out.ok hc) hc))
      have HD2 := Lib.hid (decode_no (s := s.take k) (by rw [hs]; exact dec_less hc (HL.out.ok hc) (by rw [← hs, ← hsn]; exact hkl)))
      have HD3 := Lib.hid (decode_no (s := s ++ [UInt8.ofNat more]) (by rw [hs]; exact dec_more hc (HL.out.ok hc) (by simp)))
      have HSL : Hid (s.length ≤ 100000000) := Lib.hid (by omega)
      have HSN := Lib.hid hsn
      have HSE := Lib.hid hs
      have HPO := Lib.hid hpos
      clear hel hz1 hs hsn hpos hk hkl
      go_wp2_with fail
      refine (HD1.out _ (by have := HSL.out; omega)).mono ?_
      rintro e w6 ⟨⟨u, rfl, hu⟩, hb6⟩
      have HU := Lib.hid hu
      have HB6 := Lib.hid (HB5.out.trans (hb6.mono HB5.out.size))
      clear hb6 hu
      go_wp2_with fail
      refine (HD2.out _ (by have := HSL.out; rw [List.length_take]; omega)).mono ?_
      rintro e w7 ⟨rfl, hb7⟩
      have HB7 := Lib.hid (HB6.out.trans (hb7.mono HB6.out.size))
      have HX7 := Lib.hid hb7
      clear hb7
      have hcv : (convert 46 9 (.slice (some ⟨w7.heap.size, 0, none⟩) 1 1)).run Try.prog (w7.alloc (.cells #[.int .u8 (more : Int)] 5)) = .ok (.string ⟨[UInt8.ofNat more].toArray⟩) (w7.alloc (.cells #[.int .u8 (more : Int)] 5)) :=
        run_convert_bytes_back _ 46 9 5 ⟨w7.heap.size, 0, none⟩ 1 [UInt8.ofNat more] Try.underlying46 Try.underlying5 Try.underlying9 (fun j hj => by
          obtain rfl : j = 0 := by simpa using hj
          have hmo := HMO.out
          rw [show (⟨w7.heap.size, 0, none⟩ : Addr).add 0 = ⟨w7.heap.size, 0, none⟩ from rfl, Lib.cell_of_heap (heap_alloc_new w7 _)]
          simp; omega)
      have hsm : ¬ 9223372036854775807 < sn + 1 := by have := HSL.out; have := HSN.out; omega
      go_wp2_with fail
      rw [cat_one]
      clear hcv hsm
      refine (HD3.out _ (by have := HSL.out; rw [List.length_append, List.length_singleton]; omega)).mono ?_
      rintro e w8 ⟨rfl, hb8⟩
      have HB7' : Hid (Below w.heap.size w (w7.alloc (.cells #[.int .u8 (more : Int)] 5))) := Lib.hid (HB7.out.alloc HB7.out.size _)
      have HB8 := Lib.hid (HB7'.out.trans (hb8.mono HB7'.out.size))
      have HX8 : Hid (Below w6.heap.size w6 w8) := Lib.hid (by
        have h1 := HX7.out.alloc HX7.out.size (.cells #[.int .u8 (more : Int)] 5)
        exact h1.trans (hb8.mono h1.size))
      clear hb8
      go_wp2_with fail
      go_loopw [15, 16] (fun n i wr => ∃ k, k ≤ 8 ∧ n = .int .u64 (tailN s k : Int) ∧ i = .int .i64 ((k + 1 : Nat) : Int) ∧ Hid (wr = w8)) (fun _ i _ => 10 - (intOf i).toNat)
      case atStart => exact ⟨0, by omega, rfl, rfl, Lib.hid rfl⟩
      case round =>
        obtain ⟨k, hk8, rfl, rfl, HWR⟩ := hrel
        by_cases hk : k < 8
        · have e1 : ((k + 1 : Nat) : Int) ≤ 8 := by omega
          obtain ⟨j, hj⟩ : ∃ j, j = sn - (k + 1) := ⟨_, rfl⟩
          have e2 : IntKind.i64.wrap ((sn : Int) - ((k : Int) + 1)) = (j : Int) := by rw [IntKind.wrap_i64]; have := HSL.out; have := HSN.out; have := HPO.out; omega
          have e3 : j < sn := by have := HPO.out; omega
          have e4 : (j : Int) < (sn : Int) := by omega
          have HJ := Lib.hid hj
          clear hj
          go_wp2_with fail
          have hbyte : (⟨s.toArray⟩ : ByteArray)[j]'(by rw [q1]; exact e3) = s.getD (s.length - (k + 1)) 0 := by
            have hj := HJ.out
            have hsn := HSN.out
            show s.toArray[j]'_ = _
            rw [List.getElem_toArray, List.getD_eq_getElem?_getD, show s.length - (k + 1) = j by omega, List.getElem?_eq_getElem (by omega), Option.getD_some]
          refine ⟨⟨k + 1, by omega, ?_, by simp, HWR⟩, by simp [intOf]; omega⟩
          rw [hbyte, tailN]
          have hb := (s.getD (s.length - (k + 1)) 0).toNat_lt
          have ht := tailN_lt s k
          congr 1
          rw [IntKind.wrap_u64, IntKind.wrap_u64, IntKind.wrap_u64]
          omega
        · obtain rfl : k = 8 := by omega
          have hwr := HWR.out
          subst hwr
          obtain ⟨N, hN⟩ : ∃ N, N = tailN s 8 := ⟨_, rfl⟩
          obtain ⟨m, hm⟩ : ∃ m, m = sn - 8 := ⟨_, rfl⟩
          obtain ⟨hd, hhd⟩ : ∃ hd, hd = s.take m := ⟨_, rfl⟩
          have e1 : IntKind.i64.wrap ((sn : Int) - 8) = (m : Int) := by rw [IntKind.wrap_i64]; have := HSL.out; have := HSN.out; have := HPO.out; omega
          have e2 : (⟨s.toArray⟩ : ByteArray).extract 0 m = ⟨hd.toArray⟩ := by rw [ext_take, hhd]
          have e3 : m ≤ sn := by omega
          have HCR : Hid (∀ W, Calls Try.prog 16 #[.string ⟨hd.toArray⟩] W fun e w' => e = .returned (.int .u64 (N : Int)) ∧ Below W.heap.size W w') := Lib.hid (fun W => by
            have h := Sum.crc_any ⟨hd.toArray⟩ W (by rw [size_of, hhd, List.length_take]; have := HSL.out; unfold maxLen; omega)
            have hlen : (encB l).length = (bodyB l).length + 8 := by rw [encB, List.length_append, leB_len]
            have ht : hd = bodyB l := by
              rw [hhd, hm, HSN.out, HSE.out, hlen, Nat.add_sub_cancel, encB, List.take_left]
            have hn : N = sumB (bodyB l) := by
              rw [hN, tailN_low s 8 (Nat.le_refl _) (by have := HPO.out; have := HSN.out; omega), HSE.out, hlen, Nat.add_sub_cancel, encB, List.drop_left, lowN_leB, Nat.mod_eq_of_lt (show sumB (bodyB l) < 256 ^ 8 from Nat.lt_of_lt_of_le (Sum.crcT 0#64 (bodyB l)).isLt (by decide))]
            refine h.mono fun e w' ⟨h1, h2⟩ => ⟨?_, h2⟩
            rw [h1, ht, hn]
            rfl)
          have HSA : Hid (∀ W, Below wr.heap.size wr W → Calls Try.prog 15 #[u, v] W fun e w' => e = .returned (.bool true) ∧ Below W.heap.size W w') := Lib.hid (fun W hW => by
            have hx := HX8.out.trans (hW.mono HX8.out.size)
            have h := same_items l l u v W ((HU.out.below hx).more hx.size) ((HL.out.below (HB8.out.trans (hW.mono HB8.out.size))).at_) HL.out.len (sa_all hc HL.out.vab) (sa_all hc HL.out.vab)
            rw [Asks, pb_true rfl] at h
            exact h)
          rw [← hN]
          clear hN hm hhd hc HWR
          go_wp2_with fail
          refine (HCK.out _ HB8.out).mono ?_
          rintro e w9 ⟨rfl, hb9⟩
          have HB9 := Lib.hid (HB8.out.trans (hb9.mono HB8.out.size))
          have HX9 := Lib.hid hb9
          clear hb9
          go_wp2_with fail
          refine (HSA.out _ HX9.out).mono ?_
          rintro e w10 ⟨rfl, hb10⟩
          have HB10 := Lib.hid (HB9.out.trans (hb10.mono HB9.out.size))
          clear hb10
          go_wp2_with fail
          refine (HCR.out _).mono ?_
          rintro e w11 ⟨rfl, hb11⟩
          have HB11 := Lib.hid (HB10.out.trans (hb11.mono HB10.out.size))
          clear hb11
          go_wp2_with fail
          go_ret
          exact ⟨rfl, HB11.out⟩
    · rw [encS_no hc, eno_no hc]
      rw [eno_no hc] at HCK
      clear hc
      go_wp2_with fail
      refine (HCK.out _ HB5.out).mono ?_
      rintro e w6 ⟨rfl, hb6⟩
      have HB6 := Lib.hid (HB5.out.trans (hb6.mono HB5.out.size))
      clear hb6
      go_wp2_with fail
      go_ret
      exact ⟨rfl, HB6.out⟩
end Go.Proofs.Ytpnmhldaaaemeaa.Snp
/- What is of small bulk weighs little: so a row of the second form can be read as one of the first. -/
namespace Go.Proofs.Ytpnmhldaaaemeaa.Blk
open Go Go.Proofs.Ytpnmhldaaaemeaa.Rows
theorem bulk_pos {H : Type} (d : DataW H) : 1 ≤ uptoBulk d := by
  cases d with
  | lit l => cases l <;> simp [uptoBulk]
  | _ => simp [uptoBulk]
theorem len_all {H : Type} : ∀ ds : List (DataW H), ds.length ≤ uptoBulkAll ds
  | [] => Nat.zero_le _
  | d :: r => by
    have h1 := bulk_pos d
    have h2 := len_all r
    simp only [uptoBulkAll, List.length_cons]
    omega
theorem len_entries {H : Type} : ∀ ds : List (Lit × DataW H), ds.length ≤ uptoBulkEntries ds
  | [] => Nat.zero_le _
  | (k, d) :: r => by
    have h1 := bulk_pos d
    have h2 := len_entries r
    have h3 : 1 ≤ uptoBulkEntry (k, d) := by cases k <;> simp only [uptoBulkEntry] <;> omega
    simp only [uptoBulkEntries, List.length_cons]
    omega
def okD (N : Nat) : Option TypeDesc → Bool
  | some (.pointer e) => decide (e < N)
  | some (.slice e) => decide (e < N)
  | some (.struct fs) => fs.toList.all fun f => decide (f.type < N)
  | some (.array _ e) => decide (e < N)
  | some (.map k e) => decide (k < N) && decide (e < N)
  | _ => true
theorem up {M a b n : Nat} (h : n ≤ 2 * M * a) (hab : a ≤ b) : n ≤ 2 * M * b := Nat.le_trans h (Nat.mul_le_mul_left _ hab)
structure Fit (P : Program) (M N : Nat) : Prop where
  bytes : ∀ e, e < N → P.bytesOf e ≤ M
  types : ∀ t, t < N → okD N (P.underlying t) = true
  pos : 1 ≤ M
section
variable {H : Type} {P : Program} {M N : Nat}
mutual
theorem w_one (hh : Fit P M N) : ∀ (d : DataW H) (t : TypeId) (_ : t < N) (n : Nat), n ∈ d.weights P t → n ≤ 2 * M * uptoBulk d
  | .lit l, t, ht, n, h => by
    cases l <;> simp only [DataW.weights, List.not_mem_nil, List.mem_singleton] at h
    subst h
    simp only [uptoBulk]
    exact Nat.le_trans (Nat.le_succ _) (Nat.le_mul_of_pos_left _ (by have := hh.pos; omega))
  | .nil, t, ht, n, h => by simp [DataW.weights] at h
  | .ptr d, t, ht, n, h => by
    simp only [DataW.weights] at h
    split at h
    · rename_i e he
      have hk := hh.types t ht
      rw [he] at hk
      exact up (w_one hh d e (of_decide_eq_true hk) n h) (by simp only [uptoBulk]; omega)
    · cases h
  | .slice el sp, t, ht, n, h => by
    simp only [DataW.weights] at h
    split at h
    · rename_i e he
      have hk := hh.types t ht
      rw [he] at hk
      have hk : e < N := of_decide_eq_true hk
      simp only [List.mem_cons, List.mem_append] at h
      rcases h with rfl | h | h
      · have a := len_all el
        have b := len_all sp
        have c : (el.length + sp.length) * P.bytesOf e ≤ (uptoBulkAll el + uptoBulkAll sp) * M := Nat.mul_le_mul (Nat.add_le_add a b) (hh.bytes _ hk)
        refine up (a := uptoBulkAll el + uptoBulkAll sp) (Nat.le_trans c ?_) (by simp only [uptoBulk]; omega)
        rw [Nat.mul_comm]
        exact Nat.mul_le_mul_right _ (by omega)
      · exact up (w_all hh el e hk n h) (by simp only [uptoBulk]; omega)
      · exact up (w_all hh sp e hk n h) (by simp only [uptoBulk]; omega)
    · cases h
  | .agg ps, t, ht, n, h => by
    simp only [DataW.weights] at h
    split at h
    · rename_i fs he
      have hk := hh.types t ht
      rw [he] at hk
      refine up (w_each hh _ ps (fun x hx => ?_) n h) (by simp only [uptoBulk]; omega)
      obtain ⟨f, hf, rfl⟩ := List.mem_map.1 hx
      exact of_decide_eq_true (List.all_eq_true.1 hk f hf)
    · rename_i m e he
      have hk := hh.types t ht
      rw [he] at hk
      exact up (w_all hh ps e (of_decide_eq_true hk) n h) (by simp only [uptoBulk]; omega)
    · cases h
  | .iface _ _, t, ht, n, h => by simp [DataW.weights] at h
  | .map es, t, ht, n, h => by
    simp only [DataW.weights] at h
    split at h
    · rename_i k e he
      have hk := hh.types t ht
      rw [he] at hk
      simp only [okD, Bool.and_eq_true, decide_eq_true_eq] at hk
      simp only [List.mem_cons] at h
      rcases h with rfl | h
      · have a := len_entries es
        refine up (a := uptoBulkEntries es) (Nat.le_trans (Nat.mul_le_mul a (Nat.add_le_add (hh.bytes _ hk.1) (hh.bytes _ hk.2))) ?_) (by simp only [uptoBulk]; omega)
        rw [Nat.mul_comm, Nat.two_mul]
        exact Nat.le_refl _
      · exact up (w_entries hh es e hk.2 n h) (by simp only [uptoBulk]; omega)
    · cases h
  | .held _, t, ht, n, h => by simp [DataW.weights] at h
theorem w_all (hh : Fit P M N) : ∀ (ds : List (DataW H)) (t : TypeId) (_ : t < N) (n : Nat), n ∈ DataW.weightsAll P t ds → n ≤ 2 * M * uptoBulkAll ds
  | [], t, ht, n, h => by simp [DataW.weightsAll] at h
  | d :: r, t, ht, n, h => by
    simp only [DataW.weightsAll, List.mem_append] at h
    rcases h with h | h
    · exact up (w_one hh d t ht n h) (by simp only [uptoBulkAll]; omega)
    · exact up (w_all hh r t ht n h) (by simp only [uptoBulkAll]; omega)
theorem w_each (hh : Fit P M N) : ∀ (ts : List TypeId) (ds : List (DataW H)) (_ : ∀ t ∈ ts, t < N) (n : Nat), n ∈ DataW.weightsEach P ts ds → n ≤ 2 * M * uptoBulkAll ds
  | ts, [], _, n, h => by cases ts <;> simp [DataW.weightsEach] at h
  | [], d :: r, _, n, h => by simp [DataW.weightsEach] at h
  | t :: ts, d :: r, hts, n, h => by
    simp only [DataW.weightsEach, List.mem_append] at h
    rcases h with h | h
    · exact up (w_one hh d t (hts t (by simp)) n h) (by simp only [uptoBulkAll]; omega)
    · exact up (w_each hh ts r (fun x hx => hts x (by simp [hx])) n h) (by simp only [uptoBulkAll]; omega)
theorem w_entries (hh : Fit P M N) : ∀ (ds : List (Lit × DataW H)) (t : TypeId) (_ : t < N) (n : Nat), n ∈ DataW.weightsEntries P t ds → n ≤ 2 * M * uptoBulkEntries ds
  | [], t, ht, n, h => by simp [DataW.weightsEntries] at h
  | x :: r, t, ht, n, h => by
    simp only [DataW.weightsEntries, List.mem_append] at h
    rcases h with h | h
    · exact up (w_entry hh x t ht n h) (by simp only [uptoBulkEntries]; omega)
    · exact up (w_entries hh r t ht n h) (by simp only [uptoBulkEntries]; omega)
theorem w_entry (hh : Fit P M N) : ∀ (x : Lit × DataW H) (t : TypeId) (_ : t < N) (n : Nat), n ∈ DataW.weightsEntry P t x → n ≤ 2 * M * uptoBulkEntry x
  | (k, d), t, ht, n, h => by
    cases k with
    | string b =>
      simp only [DataW.weightsEntry, List.mem_cons] at h
      rcases h with rfl | h
      · simp only [uptoBulkEntry]
        have := Nat.le_mul_of_pos_left (n := 2 * M) (b.length + uptoBulk d + 1) (by have := hh.pos; omega)
        omega
      · exact up (w_one hh d t ht n h) (by simp only [uptoBulkEntry]; omega)
    | _ =>
      simp only [DataW.weightsEntry] at h
      exact up (w_one hh d t ht n h) (by simp only [uptoBulkEntry]; omega)
end
end
theorem bytes_le (e : TypeId) (h : e < Try.prog.types.size) : Try.prog.bytesOf e ≤ 1048576 := by
  have : (List.range Try.prog.types.size).all (fun e => decide (Try.prog.bytesOf e ≤ 1048576)) = true := by kernel_rfl
  exact of_decide_eq_true (List.all_eq_true.1 this e (List.mem_range.2 h))
theorem types_ok (t : TypeId) (h : t < Try.prog.types.size) : okD Try.prog.types.size (Try.prog.underlying t) = true := by
  have : (List.range Try.prog.types.size).all (fun t => okD Try.prog.types.size (Try.prog.underlying t)) = true := by kernel_rfl
  exact List.all_eq_true.1 this t (List.mem_range.2 h)
/-- what a row of the second form reads is within reach -/
theorem small_reach {H : Type} (ts : List TypeId) (hts : ∀ t ∈ ts, t < Try.prog.types.size) (ds : List (DataW H)) (h : uptoSmall H ds = true) : (DataW.weightsEach Try.prog ts ds).all (· ≤ reachBytes) = true := by
  have hb : uptoBulkAll ds ≤ 1048576 := of_decide_eq_true h
  refine List.all_eq_true.2 fun n hn => decide_eq_true ?_
  have h2 := w_each ⟨bytes_le, types_ok, by decide⟩ ts ds hts n hn
  have h3 := Nat.mul_le_mul_left (2 * 1048576) hb
  unfold reachBytes
  omega
end Go.Proofs.Ytpnmhldaaaemeaa.Blk
/- The statement SnapBack: for every input the law's function returns true, and its arguments read as before. The row's step round the walk. -/
namespace Go.Proofs.Ytpnmhldaaaemeaa.SnapBackU
open Go.Proofs.Ytpnmhldaaaemeaa.Snp Go.Proofs.Ytpnmhldaaaemeaa.Rdg Go.ChangeShapes Go.WideShapes Go.ChangeAt Go.RowKit Go.Joins Go.Proofs.Ytpnmhldaaaemeaa.Law
open Go.ChangeMaps (open_string)
set_option linter.unusedVariables false

theorem own : ownKnob Try.prog.godebug = none := by kernel_rfl

theorem hk : (Rows.OpenSpec.upto Rows.snapBackSpec).cond = some Rows.uptoSmall := rfl
set_option maxRecDepth 100000 in
theorem lifted (os : Os) (started : os.Started) (H : Type) (enc : TypeId × Value → H) (F : Stop.Interp) :
    ReturnsInHanded {} Try.checked os 4 .any ((Rows.OpenSpec.upto Rows.snapBackSpec).pre6 enc Try.prog Try.f4 Rows.snapBackUptoRow.domain false) (((Rows.OpenSpec.upto Rows.snapBackSpec).at F).post enc Try.prog Try.f4 false true false false) := by
  refine returnsInHanded_of_cond (C := Try.checked) hk own started (by kernel_rfl) Try.func4
    (OpenSpec.witness (enc := enc) (C := Try.checked) (x := ([.nil, .lit (.int .u32 0), .lit (.int .u8 0)], [], [])) hk false ⟨#[], #[.slice none 0 0, .int .u32 0, .int .u8 0], []⟩ 8 (by kernel_rfl) (by kernel_rfl) (by kernel_rfl) (by kernel_rfl) (by kernel_rfl) (by kernel_rfl)) ?_
  intro W base args ds gs before hval0 hW hcnd hsm _
  have hval : ∀ (j : Nat) t v, Try.f4.params[j]? = some t → args[j]? = some v → Value.okWide Try.prog W .any base t v := hval0
  have hW' := hW
  obtain ⟨p, q, hA0, hV, rfl, hfz, hnd⟩ := hW
  have hA : DataW.TrodAll enc Try.prog W 0 (fun _ => true) true Try.f4.params.toList args.toList ds p := hA0
  rw [Try.params4] at hA hval
  obtain ⟨v0, vs0, d0, ds0, p0, q0, hargs, rfl, rfl, h0, r0⟩ := trodAll_cons hA
  obtain ⟨v1, vs1, d1, ds1, p1, q1, rfl, rfl, rfl, h1, r1⟩ := trodAll_cons r0
  obtain ⟨v2, vs2, d2, ds2, p2, q2, rfl, rfl, rfl, h2, r2⟩ := trodAll_cons r1
  obtain ⟨rfl, rfl, rfl⟩ := trodAll_nil r2
  obtain rfl : args = #[v0, v1, v2] := by cases args; simp_all
  obtain ⟨rfl, rfl⟩ := trodVars_none hV
  have hsz := Blk.small_reach (Try.f4.params.toList ++ []) (fun t ht => of_decide_eq_true (List.all_eq_true.1 (show (Try.f4.params.toList ++ []).all (fun t => decide (t < Try.prog.types.size)) = true by kernel_rfl) t ht)) _ hsm
  rw [Try.params4] at hsz
  obtain ⟨fuel0, hf0⟩ := h0
  obtain ⟨l0, hs0⟩ := rd_items _ _ _ hf0 (fun n hn => by
    have := List.all_eq_true.1 hsz n (DataW.weights_mem_each (j := 0) rfl rfl n hn)
    simpa using this)
  obtain ⟨u0, hc0, ha0, hl0, hb0⟩ := items_of hs0
  obtain ⟨A0, n0, c0, rfl⟩ := okWide_slice Try.underlying36 (hval 0 36 v0 rfl rfl)
  obtain rfl : (.slice A0 n0 c0 : Value) = u0 := by simpa [Value.cells] using hc0
  have hi0 : Its W (.slice A0 n0 c0) l0 := ⟨ha0, hl0, fun it hit => (hb0 it hit).vab, fun it hit => (hb0 it hit).ids, fun it hit => (hb0 it hit).itt⟩
  obtain ⟨x1, rfl, rfl, rfl, w1⟩ := open_int Try.underlying40 (hval 1 40 v1 rfl rfl) h1
  obtain ⟨x2, rfl, rfl, rfl, w2⟩ := open_int Try.underlying5 (hval 2 5 v2 rfl rfl) h2
  simp only [Lit.wf, Bool.and_eq_true, decide_eq_true_eq] at w1 w2
  have m1 : IntKind.u32.min = 0 := rfl
  have m2 : IntKind.u32.max = 4294967295 := rfl
  have m3 : IntKind.u8.min = 0 := rfl
  have m4 : IntKind.u8.max = 255 := rfl
  obtain ⟨y1, rfl⟩ : ∃ y1 : Nat, x1 = (y1 : Int) := ⟨x1.toNat, by omega⟩
  obtain ⟨y2, rfl⟩ : ∃ y2 : Nat, x2 = (y2 : Int) := ⟨x2.toNat, by omega⟩
  refine (back_walk l0 _ y1 y2 W hi0 (by omega) (by omega)).mono fun e W' ⟨he, hg⟩ => ?_
  subst he
  exact ⟨_, rfl, law_post (bt := 4) (by kernel_rfl) (by kernel_rfl) Try.underlying4 rfl rfl hW' rfl hg⟩

theorem proved : Rows.SnapBackUptoSaid :=
  OpenClaim.holds_of_cond 4 Try.f4 rfl rfl rfl rfl rfl rfl rfl ⟨rfl, rfl, rfl, rfl, rfl⟩ rfl rfl rfl rfl rfl (by kernel_rfl) Try.func4 (by kernel_rfl)
    (of_decide_eq_true (by kernel_rfl)) (by unfold Func.isWrapper; first | (rw [if_pos (by decide +kernel)]; kernel_rfl) | (rw [if_neg (by decide +kernel)]; exact ⟨rfl, rfl⟩))
    (fun os started H enc _ F => lifted os started H enc F)
end Go.Proofs.Ytpnmhldaaaemeaa.SnapBackU
