/- Chapter 18: texts that are the same, copied, left as they were; replies that are the same. -/
import Derived.Test.YtpanbijlfijgfaaDoorCheck18
import Derived.Test.YtpanbijlfijgfaaDoorBkM
import Derived.Test.YtpanbijlfijgfaaDoorPin2
import Derived.Lib.Hide
import Derived.LoopTactic
import Derived.WalkLawsBesides
import Derived.Deep.WholeRow
import Derived.Deep.MidRow
namespace Go.Proofs.YtpanbijlfijgfaaDoor.Bok
open Go Go.RowKit Go.Proofs.YtpanbijlfijgfaaDoor.Pin Go.Proofs.YtpanbijlfijgfaaDoor.Fnd
theorem Strs.below {w w' : World} {p : Option Addr} {ss : List ByteArray} (h : Strs w p ss) (hb : Below w.heap.size w w') : Strs w' p ss := fun i hi => by
  obtain ⟨g, o, e, hg, hc⟩ := h i hi
  exact ⟨g, o, e, Nat.lt_of_lt_of_le hg hb.size, (hb.cell (p := ⟨g, _, none⟩) hg).trans hc⟩
set_option maxHeartbeats 2000000 in
set_option maxRecDepth 100000 in
theorem same_texts (l : List ByteArray) (p p' : Option Addr) (c c' : Nat) (w : World) (h1 : Strs w p l) (h2 : Strs w p' l) (hl : l.length ≤ 1099511627776) :
    Calls Tryd.prog 9 #[.slice p l.length c, .slice p' l.length c'] w fun e w' => e = .returned (.bool true) ∧ Below w.heap.size w w' := by
  obtain ⟨N, hN⟩ : ∃ N, N = l.length := ⟨_, rfl⟩
  have HN := Lib.hid hN
  have hl2 : N ≤ 1099511627776 := by omega
  rw [← hN]
  have H1 := Lib.hid h1
  have H2 := Lib.hid h2
  clear hN h1 h2 hl
  go_enter Tryd.func9, Tryd.ntmps9
  go_wp2_with fail
  go_loopw [5] (fun i wr => ∃ k : Nat, k ≤ N ∧ i = .int .i64 k ∧ Hid (Below w.heap.size w wr)) (fun i _ => N - (intOf i).toNat)
  case atStart => exact ⟨0, Nat.zero_le _, rfl, Lib.hid (Below.refl _ _)⟩
  case round =>
    obtain ⟨k, hk, rfl, HB⟩ := hrel
    by_cases hlt : (k : Int) < (N : Int)
    · have hkl : k < l.length := by have := HN.out; omega
      obtain ⟨g, o, rfl, hg, hc⟩ := H1.out k hkl
      obtain ⟨g', o', rfl, hg', hc'⟩ := H2.out k hkl
      obtain ⟨x, hx⟩ : ∃ x, x = l[k] := ⟨_, rfl⟩
      rw [← hx] at hc hc'
      have x1 : wr.cell? ⟨g, o + k, none⟩ = some (.string x) := (HB.out.cell (p := ⟨g, _, none⟩) hg).trans hc
      have y1 : wr.cell? ⟨g', o' + k, none⟩ = some (.string x) := (HB.out.cell (p := ⟨g', _, none⟩) hg').trans hc'
      have hne : (x.toList != x.toList) = false := by simp
      clear hx hc hc'
      go_wp2_with fail
      refine wp_region_q [0,0,0,1,0,0,0,1,0] (by kernel_rfl) (by kernel_rfl) ?_
      (refine q_pure_n rfl (fun K hK => ?_); go_simp; refine hK _ _ ?_; clear hK K)
      (refine q_pure_n rfl (fun K hK => ?_); go_simp; refine hK _ _ ?_; clear hK K)
      (refine q_pure_n rfl (fun K hK => ?_); go_simp; refine hK _ _ ?_; clear hK K)
      (refine q_read_n rfl (fun K hK => ?_); go_simp; refine hK _ _ ?_; clear hK K)
      (refine q_pure_n rfl (fun K hK => ?_); go_simp; refine hK _ _ ?_; clear hK K)
      (refine q_pure_n rfl (fun K hK => ?_); go_simp; refine hK _ _ ?_; clear hK K)
      (refine q_pure_n rfl (fun K hK => ?_); go_simp; refine hK _ _ ?_; clear hK K)
      (refine q_read_n rfl (fun K hK => ?_); go_simp; refine hK _ _ ?_; clear hK K)
      (refine q_pure_n rfl (fun K hK => ?_); go_simp; refine hK _ _ ?_; clear hK K)
      refine q_nil ?_
      intro nq
      go_wp2_with fail
      exact ⟨⟨k + 1, by omega, by go_num, Lib.hid (below_drewN HB.out _)⟩, by simp [intOf]; omega⟩
    · go_wp2_with fail
      go_ret
      exact ⟨rfl, HB.out⟩
theorem same_replies_none (w : World) : Calls Tryd.prog 23 #[.slice none 0 0, .slice none 0 0] w fun e w' => e = .returned (.bool true) ∧ w = w' := by
  go_enter Tryd.func23, Tryd.ntmps23
  go_wp2_with fail
  go_loopw [5] (fun i wr => i = .int .i64 0 ∧ w = wr) (fun _ _ => 0)
  case atStart => exact ⟨rfl, rfl⟩
  case round =>
    obtain ⟨rfl, rfl⟩ := hrel
    go_wp2_with fail
    go_ret
    exact ⟨rfl, rfl⟩
theorem same_reply (k : Int) (t : ByteArray) (w : World) : Calls Tryd.prog 8 #[repV k t, repV k t] w fun e w' => e = .returned (.bool true) ∧ Below w.heap.size w w' := by
  have hq : (t.toList == t.toList) = true := by simp
  have hk : (k == k) = true := by simp
  have HS := Lib.hid same_replies_none
  unfold repV
  go_enter Tryd.func8, Tryd.ntmps8
  go_wp2_with fail
  refine (HS.out _).mono ?_
  rintro e w' ⟨rfl, rfl⟩
  go_wp2_with fail
  go_ret
  exact ⟨rfl, ((Below.refl _ w).alloc (Nat.le_refl _) _).alloc (by simp) _⟩
theorem tinfo_text : (Tryd.prog.info? 9).map (fun i => (i.zero, i.size, i.bytes)) = some (some (.string ⟨#[]⟩), 1, 16) := by kernel_rfl
def spare : ByteArray := ⟨#[115, 112, 97, 114, 101]⟩
set_option maxHeartbeats 2000000 in
set_option maxRecDepth 100000 in
theorem twin_texts (l : List ByteArray) (p : Option Addr) (c : Nat) (w : World) (h1 : Strs w p l) (hl : l.length ≤ 1048576) :
    Calls Tryd.prog 18 #[.slice p l.length c] w fun e w' => (∃ g, e = .returned (.slice (some ⟨g, 0, none⟩) l.length (l.length + 1)) ∧ w'.ownsRow w.heap.size 9 1 (.slice (some ⟨g, 0, none⟩) (l.length + 1) (l.length + 1)) (l.length + 1) (l.map Value.string ++ [.string spare])) ∧ Below w.heap.size w w' := by
  obtain ⟨n, hn⟩ : ∃ n, n = l.length := ⟨_, rfl⟩
  rw [← hn] at hl ⊢
  have HN := Lib.hid hn
  have HT := Lib.hid h1
  obtain ⟨i0, hi, hz0, hz1, hz2⟩ := info_parts tinfo_text
  have HI := Lib.hid hi
  have HZ0 := Lib.hid hz0
  have HZ1 := Lib.hid hz1
  have HZ2 := Lib.hid hz2
  clear hi hz0 hz1 hz2 hn h1
  go_enter Tryd.func18, Tryd.ntmps18
  go_wp2_with (at_make; refine wpList_make_own _ rfl _ _ 22 rfl w.heap.size 9 i0 (.string ⟨#[]⟩) 1 Tryd.underlying22 HI.out HZ0.out HZ1.out .i64 .i64 _ (n + 1) rfl rfl ?c1 ?c2 ?c3 ?c4 ?_)
  case c1 => omega
  case c2 => rw [HZ2.out]; omega
  case c3 => unfold maxLen; omega
  case c4 => exact Nat.le_refl _
  intro w1 hown1 hgrow1
  obtain ⟨g, hg⟩ : ∃ g, g = w.heap.size := ⟨_, rfl⟩
  rw [← hg] at hown1 ⊢
  have HO1 : Hid (w1.ownsRow g 9 1 (.slice (some ⟨g, 0, none⟩) 0 (n + 1)) 0 []) := Lib.hid hown1
  have HB1 : Hid (Below w.heap.size w w1) := Lib.hid ((Below.refl _ w).grown hgrow1 (Nat.le_refl _) (fun b e => by cases e))
  have HG := Lib.hid hg
  clear hown1 hgrow1 hg
  go_wp2_with fail
  go_loopw [3, 4] (fun v i wr => ∃ (k : Nat), k ≤ n ∧ i = .int .i64 k ∧ v = .slice (some ⟨g, 0, none⟩) k (n + 1) ∧ Hid (wr.ownsRow g 9 1 (.slice (some ⟨g, 0, none⟩) k (n + 1)) k ((l.map Value.string).take k)) ∧ Hid (Below w.heap.size w wr)) (fun _ i _ => n - (intOf i).toNat)
  case atStart => exact ⟨0, by omega, rfl, rfl, HO1, HB1⟩
  case round =>
    obtain ⟨k, hk, rfl, rfl, HO, HW⟩ := hrel
    clear HO1 HB1
    by_cases hlt : (k : Int) < (n : Int)
    · have hkl : k < l.length := by have := HN.out; omega
      obtain ⟨r, o, rfl, hr, hc⟩ := HT.out k hkl
      obtain ⟨x, hx⟩ : ∃ x, x = l[k] := ⟨_, rfl⟩
      have HX : Hid ((l.map Value.string).take k ++ [.string x] = (l.map Value.string).take (k + 1)) := Lib.hid (by rw [hx, List.take_succ_eq_append_getElem (by simpa using hkl), List.getElem_map])
      rw [← hx] at hc
      have x1 : wr.cell? ⟨r, o + k, none⟩ = some (.string x) := (HW.out.cell (p := ⟨r, _, none⟩) hr).trans hc
      have HC := Lib.hid (HO.out.alloc (.cells #[.string x] 9))
      clear hx hc
      go_wp2_with (at_builtin; refine wpList_append_fits _ rfl _ _ 22 rfl g 9 i0 1 Tryd.underlying22 HI.out HZ1.out g k (n + 1) _ rfl HC.out ⟨wr.heap.size, 0, none⟩ 1 1 [.string x] rfl rfl ?c1 ?c2 ?c3 ?_)
      case c1 => exact new_cells wr [.string x] 9
      case c2 => simp [Value.oneCell']
      case c3 => omega
      intro w3 hown3 hgr3
      have HO3 : Hid (w3.ownsRow g 9 1 (.slice (some ⟨g, 0, none⟩) (k + 1) (n + 1)) (k + 1) ((l.map Value.string).take (k + 1))) := Lib.hid (by rw [← HX.out]; exact hown3)
      have HW3 : Hid (Below w.heap.size w w3) := Lib.hid ((HW.out.alloc HW.out.size _).grown hgr3 (by have := HW.out.size; simp; omega) (fun b e => by injection e with e; have := HG.out; omega))
      clear hown3 hgr3
      go_wp2_with fail
      exact ⟨⟨k + 1, by omega, by go_num, by go_num, HO3, HW3⟩, by simp [intOf]; omega⟩
    · have hkn : k = n := by omega
      have HK := Lib.hid hkn
      have HC := Lib.hid (HO.out.alloc (.cells #[.string ⟨#[115, 112, 97, 114, 101]⟩] 9))
      go_wp2_with (at_builtin; refine wpList_append_fits _ rfl _ _ 22 rfl g 9 i0 1 Tryd.underlying22 HI.out HZ1.out g k (n + 1) _ rfl HC.out ⟨wr.heap.size, 0, none⟩ 1 1 [.string ⟨#[115, 112, 97, 114, 101]⟩] rfl rfl ?d1 ?d2 ?d3 ?_)
      case d2 => simp [Value.oneCell']
      intro w3 hown3 hgr3
      have HO3 : Hid (w3.ownsRow w.heap.size 9 1 (.slice (some ⟨g, 0, none⟩) (n + 1) (n + 1)) (n + 1) (l.map Value.string ++ [.string spare])) := Lib.hid (by
        have h := hown3
        rw [List.take_of_length_le (by rw [List.length_map, HN.out]; exact Nat.le_refl _)] at h
        rw [← HG.out]
        exact h)
      have HW3 : Hid (Below w.heap.size w w3) := Lib.hid ((HW.out.alloc HW.out.size _).grown hgr3 (by have := HW.out.size; simp; omega) (fun b e => by injection e with e; have := HG.out; omega))
      clear hown3 hgr3
      go_wp2_with fail
      go_ret
      exact ⟨⟨g, rfl, HO3.out⟩, HW3.out⟩
theorem twin_command (l : List ByteArray) (p : Option Addr) (c : Nat) (w : World) (h1 : Strs w p l) (hl : l.length ≤ 1048576) :
    Calls Tryd.prog 4 #[.slice p l.length c] w fun e w' => (∃ g, e = .returned (.slice (some ⟨g, 0, none⟩) l.length (l.length + 1)) ∧ w'.ownsRow w.heap.size 9 1 (.slice (some ⟨g, 0, none⟩) (l.length + 1) (l.length + 1)) (l.length + 1) (l.map Value.string ++ [.string spare])) ∧ Below w.heap.size w w' := by
  have HC := Lib.hid (twin_texts l p c w h1 hl)
  clear h1
  go_enter Tryd.func4, Tryd.ntmps4
  go_wp2_with fail
  refine HC.out.mono ?_
  rintro e w' ⟨⟨g, rfl, ho⟩, hb⟩
  go_wp2_with fail
  go_ret
  exact ⟨⟨g, rfl, ho⟩, hb⟩
end Go.Proofs.YtpanbijlfijgfaaDoor.Bok
