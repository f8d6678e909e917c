/- A book of texts: what it is told, and whether its lists lie apart. Printed by gen_bka18.py. -/
import Derived.Test.YtpanbijlfijgfaaDoorBkN18
namespace Go.Proofs.YtpanbijlfijgfaaDoor.Bok
open Go Go.RowKit Go.Proofs.YtpanbijlfijgfaaDoor.Pin
theorem texts_any (B b n : Nat) (sl : Value) (hs : List Hd) (A : Option Addr) (len c : Nat) (w : World) (hK : BkK w B b n sl hs) (hm : hs.length ≤ 1048576) (hn : n ≤ 1048576) (hB : B ≤ w.heap.size) :
    Calls Tryd.prog 13 #[.pointer (some ⟨b, 0, none⟩), .slice A len c] w fun e w' => e = .returned (.tuple #[]) ∧ ∃ sl', BkK w' B b (n + 1) sl' (hs ++ [⟨.slice A len c, len, n + 1⟩]) ∧ Frm (fun r => r = b ∨ sl.ownBlock = some r) w w' ∧ (sl'.ownBlock = sl.ownBlock ∨ ∃ r, sl'.ownBlock = some r ∧ w.heap.size ≤ r) := by
  have HC := Lib.hid (keep_text B b n sl hs A len c w hK hm hn hB)
  clear hK
  go_enter Tryd.func13, Tryd.ntmps13
  go_wp2_with fail
  refine HC.out.mono ?_
  rintro e w' ⟨rfl, hp⟩
  go_wp2_with fail
  first | refine bodyPost_end (results_none rfl _ _ _) rfl ?_ | refine bodyPost_ret (results_none rfl _ _ _) rfl ?_
  exact ⟨rfl, hp⟩
theorem command_any (B b n : Nat) (sl : Value) (hs : List Hd) (A : Option Addr) (len c : Nat) (w : World) (hK : BkK w B b n sl hs) (hm : hs.length ≤ 1048576) (hn : n ≤ 1048576) (hB : B ≤ w.heap.size) :
    Calls Tryd.prog 12 #[.pointer (some ⟨b, 0, none⟩), .slice A len c] w fun e w' => e = .returned (.tuple #[]) ∧ ∃ sl', BkK w' B b (n + 1) sl' (hs ++ [⟨.slice A len c, len, n + 1⟩]) ∧ Frm (fun r => r = b ∨ sl.ownBlock = some r) w w' ∧ (sl'.ownBlock = sl.ownBlock ∨ ∃ r, sl'.ownBlock = some r ∧ w.heap.size ≤ r) := by
  have HC := Lib.hid (texts_any B b n sl hs A len c w hK hm hn hB)
  clear hK
  go_enter Tryd.func12, Tryd.ntmps12
  go_wp2_with fail
  refine HC.out.mono ?_
  rintro e w' ⟨rfl, hp⟩
  go_wp2_with fail
  first | refine bodyPost_end (results_none rfl _ _ _) rfl ?_ | refine bodyPost_ret (results_none rfl _ _ _) rfl ?_
  exact ⟨rfl, hp⟩
theorem rowL_get {hs : List Hd} {i c : Nat} (hi : i < hs.length) (hc : c < 3) : (hs.flatMap rowL)[i * 3 + c]? = (rowL hs[i])[c]? := by
  induction hs generalizing i with
  | nil => simp at hi
  | cons h hs ih =>
    rw [List.flatMap_cons]
    cases i with
    | zero =>
      rw [Nat.zero_mul, Nat.zero_add, List.getElem?_append_left (by simpa [rowL] using hc)]
      rfl
    | succ i =>
      rw [List.getElem?_append_right (by simp [rowL]; omega)]
      have e : (i + 1) * 3 + c - (rowL h).length = i * 3 + c := by simp [rowL]; omega
      rw [e]
      exact ih (by simpa using hi)
theorem BkK.rowAt {w : World} {B b n : Nat} {sl : Value} {hs : List Hd} (h : BkK w B b n sl hs) (h0 : hs ≠ []) : ∃ q cap, sl = .slice (some ⟨q, 0, none⟩) hs.length cap ∧ RowAt w 71 q hs (fun _ => .slice none 0 0) := by
  have hl : 0 < hs.length := List.length_pos_iff.2 h0
  rcases h.row.2 with ⟨_, k⟩ | ⟨q, cap, cur, e, _, hg, h1, _, h2, _⟩
  · omega
  · refine ⟨q, cap, e, ⟨cur, hg, by rw [h2]; exact Nat.mul_le_mul_right _ h1⟩, fun i hi => ?_⟩
    have hr := h.row
    rw [e] at hr
    have hc := fun c (hc : c < 3) => hr.cellAt (i * 3 + c) (by omega)
    refine ⟨?_, ?_, ?_⟩
    · have := hc 0 (by omega)
      rw [Nat.add_zero] at this
      rw [this]
      exact (rowL_get hi (c := 0) (by omega)).trans rfl
    · rw [hc 1 (by omega)]
      exact (rowL_get hi (c := 1) (by omega)).trans rfl
    · rw [hc 2 (by omega)]
      exact (rowL_get hi (c := 2) (by omega)).trans rfl
set_option maxHeartbeats 4000000 in
set_option maxRecDepth 100000 in
theorem apart_any (B b n : Nat) (sl : Value) (hs : List Hd) (w : World) (hK : BkK w B b n sl hs) (h0 : hs ≠ []) (hok : ∀ h ∈ hs, ∃ xs, w.ownsRow B 9 1 h.v h.len xs) (hap : Apt hs) (hb : ¬ Own hs b) (hq : ∀ r, sl.ownBlock = some r → ¬ Own hs r)
    (hn : ∀ h ∈ hs, h.n < 100 ∧ h.len ≤ 1099511627776) (hm : hs.length ≤ 1048576) (hB : B ≤ w.heap.size) :
    Calls Tryd.prog 14 #[.pointer (some ⟨b, 0, none⟩)] w fun e w' => e = .returned (.bool true) ∧ Frm (fun r => sl.ownBlock = some r ∨ Own hs r) w w' := by
  obtain ⟨q, cap, hsl, hrow⟩ := hK.rowAt h0
  have hqn : ¬ Own hs q := hq q (by rw [hsl]; rfl)
  have hbq : b ≠ q := fun e => hK.off (by rw [hsl, e]; rfl)
  have HT0 := Lib.hid hK.top
  have HS := Lib.hid hsl
  have HFI := Lib.hid (fun (hc : w.cell? ⟨b, 3, none⟩ = some (.slice (some ⟨q, 0, none⟩) hs.length cap)) => fill_text B b q cap hs w hc hrow hok hap hb hqn hn hm)
  have HGI := Lib.hid (fun (w1 : World) (hf : Frm (Own hs) w w1) (hc : w1.cell? ⟨b, 3, none⟩ = some (.slice (some ⟨q, 0, none⟩) hs.length cap)) (hm1 : ∀ h ∈ hs, w1.ownsRow B 9 1 h.v h.len (marks (mkT h.n) h.len)) =>
    grow_text B b q cap hs w1 hc (hrow.frm hf hqn) hm1 hap hb hbq hqn hn hm (by have := hf.size; omega))
  have HLI := Lib.hid (fun (w2 : World) (W0 : Nat) (lo : Nat → Value) (hc : w2.cell? ⟨b, 3, none⟩ = some (.slice (some ⟨q, 0, none⟩) hs.length cap)) (hr : RowAt w2 71 q hs lo) (hg : ∀ i (hi : i < hs.length), Grw mkT w2 W0 hs[i] (lo i)) => look_text b q cap W0 hs lo w2 hc hr hg hn hm)
  have HBN : Hid (¬ Own hs b ∧ ¬ (b = q ∨ Own hs b)) := Lib.hid ⟨hb, by rintro (h | h); exact hbq h; exact hb h⟩
  have HC := Lib.hid (fun (W : World) (ht : W.heap[b]? = some (.cells (bookC n sl) 45 (0, 0))) => (show W.cell? ⟨b, 3, none⟩ = some (.slice (some ⟨q, 0, none⟩) hs.length cap) by rw [Lib.cell_of_heap ht, ← hsl]; rfl))
  have HZ := Lib.hid (fun (W : World) (ht : W.heap[b]? = some (.cells (bookC n sl) 45 (0, 0))) (f : Nat) (hf : (bookC n sl)[f]? = some (.slice none 0 0)) => (show W.cell? ⟨b, f, none⟩ = some (.slice none 0 0) by rw [Lib.cell_of_heap ht]; exact hf))
  clear hK hok hap hb hq hn hm hrow hsl hqn hbq h0 hB
  go_enter Tryd.func14, Tryd.ntmps14
  go_wp2_with fail
  refine (fill_byte_none b w (HZ.out w HT0.out 1 rfl)).mono ?_
  rintro e w' ⟨rfl, rfl⟩
  go_wp2_with fail
  refine (fill_int_none b w (HZ.out w HT0.out 2 rfl)).mono ?_
  rintro e w' ⟨rfl, rfl⟩
  go_wp2_with fail
  refine (HFI.out (HC.out w HT0.out)).mono ?_
  rintro e w1 ⟨rfl, hm1, hf1⟩
  have HT1 : Hid (w1.heap[b]? = some (.cells (bookC n sl) 45 (0, 0))) := Lib.hid ((hf1.block b (Array.getElem?_eq_some_iff.1 HT0.out).1 HBN.out.1).trans HT0.out)
  have HF1 := Lib.hid hf1
  have HM1 := Lib.hid hm1
  clear hm1 hf1
  go_wp2_with fail
  refine (fill_pair_none b w1 (HZ.out w1 HT1.out 4 rfl)).mono ?_
  rintro e w' ⟨rfl, rfl⟩
  go_wp2_with fail
  refine (fill_scored_none b w1 (HZ.out w1 HT1.out 5 rfl)).mono ?_
  rintro e w' ⟨rfl, rfl⟩
  go_wp2_with fail
  refine (fill_entry_none b w1 (HZ.out w1 HT1.out 6 rfl)).mono ?_
  rintro e w' ⟨rfl, rfl⟩
  go_wp2_with fail
  refine (fill_item_none b w1 (HZ.out w1 HT1.out 7 rfl)).mono ?_
  rintro e w' ⟨rfl, rfl⟩
  go_wp2_with fail
  refine (fill_command_none b w1 (HZ.out w1 HT1.out 8 rfl)).mono ?_
  rintro e w' ⟨rfl, rfl⟩
  go_wp2_with fail
  refine (fill_reply_none b w1 (HZ.out w1 HT1.out 9 rfl)).mono ?_
  rintro e w' ⟨rfl, rfl⟩
  go_wp2_with fail
  refine (grow_byte_none b w1 (HZ.out w1 HT1.out 1 rfl)).mono ?_
  rintro e w' ⟨rfl, rfl⟩
  go_wp2_with fail
  refine (grow_int_none b w1 (HZ.out w1 HT1.out 2 rfl)).mono ?_
  rintro e w' ⟨rfl, rfl⟩
  go_wp2_with fail
  refine (HGI.out w1 HF1.out (HC.out w1 HT1.out) HM1.out).mono ?_
  rintro e w2 ⟨rfl, ⟨lo, hr2, hg2⟩, hf2⟩
  have HT2 : Hid (w2.heap[b]? = some (.cells (bookC n sl) 45 (0, 0))) := Lib.hid ((hf2.block b (Array.getElem?_eq_some_iff.1 HT1.out).1 HBN.out.2).trans HT1.out)
  have HF2 : Hid (Frm (fun r => sl.ownBlock = some r ∨ Own hs r) w w2) := Lib.hid ((HF1.out.mono (fun _ _ h => .inr h)).trans hf2 (fun r _ h => by rcases h with h | h; exact .inl (by rw [HS.out, h]; rfl); exact .inr h))
  have HL2 := Lib.hid (HLI.out w2 w1.heap.size lo (HC.out w2 HT2.out) hr2 hg2)
  clear hr2 hg2 hf2
  go_wp2_with fail
  refine (grow_pair_none b w2 (HZ.out w2 HT2.out 4 rfl)).mono ?_
  rintro e w' ⟨rfl, rfl⟩
  go_wp2_with fail
  refine (grow_scored_none b w2 (HZ.out w2 HT2.out 5 rfl)).mono ?_
  rintro e w' ⟨rfl, rfl⟩
  go_wp2_with fail
  refine (grow_entry_none b w2 (HZ.out w2 HT2.out 6 rfl)).mono ?_
  rintro e w' ⟨rfl, rfl⟩
  go_wp2_with fail
  refine (grow_item_none b w2 (HZ.out w2 HT2.out 7 rfl)).mono ?_
  rintro e w' ⟨rfl, rfl⟩
  go_wp2_with fail
  refine (grow_command_none b w2 (HZ.out w2 HT2.out 8 rfl)).mono ?_
  rintro e w' ⟨rfl, rfl⟩
  go_wp2_with fail
  refine (grow_reply_none b w2 (HZ.out w2 HT2.out 9 rfl)).mono ?_
  rintro e w' ⟨rfl, rfl⟩
  go_wp2_with fail
  refine (look_byte_none b w2 (HZ.out w2 HT2.out 1 rfl)).mono ?_
  rintro e w' ⟨rfl, rfl⟩
  go_wp2_with fail
  refine (look_int_none b w2 (HZ.out w2 HT2.out 2 rfl)).mono ?_
  rintro e w' ⟨rfl, rfl⟩
  go_wp2_with fail
  refine HL2.out.mono ?_
  rintro e w3 ⟨rfl, hb3⟩
  have HT3 : Hid (w3.heap[b]? = some (.cells (bookC n sl) 45 (0, 0))) := Lib.hid ((hb3.block b (Array.getElem?_eq_some_iff.1 HT2.out).1).trans HT2.out)
  have HF3 : Hid (Frm (fun r => sl.ownBlock = some r ∨ Own hs r) w w3) := Lib.hid (HF2.out.trans (own' := fun _ => False) (Frm.of_below hb3) (fun _ _ h => h.elim))
  clear hb3
  go_wp2_with fail
  refine (look_pair_none b w3 (HZ.out w3 HT3.out 4 rfl)).mono ?_
  rintro e w' ⟨rfl, rfl⟩
  go_wp2_with fail
  refine (look_scored_none b w3 (HZ.out w3 HT3.out 5 rfl)).mono ?_
  rintro e w' ⟨rfl, rfl⟩
  go_wp2_with fail
  refine (look_entry_none b w3 (HZ.out w3 HT3.out 6 rfl)).mono ?_
  rintro e w' ⟨rfl, rfl⟩
  go_wp2_with fail
  refine (look_item_none b w3 (HZ.out w3 HT3.out 7 rfl)).mono ?_
  rintro e w' ⟨rfl, rfl⟩
  go_wp2_with fail
  refine (look_command_none b w3 (HZ.out w3 HT3.out 8 rfl)).mono ?_
  rintro e w' ⟨rfl, rfl⟩
  go_wp2_with fail
  refine (look_reply_none b w3 (HZ.out w3 HT3.out 9 rfl)).mono ?_
  rintro e w' ⟨rfl, rfl⟩
  go_wp2_with fail
  go_ret
  exact ⟨rfl, HF3.out⟩
end Go.Proofs.YtpanbijlfijgfaaDoor.Bok
