/- The walk of lives: the answers that the document fixes. -/
import Derived.Test.YtpanbijlfijgfaaDoorCheck18
namespace Go.Proofs.YtpanbijlfijgfaaDoor.Fnd
open Go.RowKit Go.Proofs.YtpanbijlfijgfaaDoor.Rws Go.Proofs.YtpanbijlfijgfaaDoor.Low18

def tGeT : ByteArray := ⟨#[71, 101, 84]⟩
def tGot : ByteArray := ⟨#[103, 111, 116]⟩
def tGet : ByteArray := ⟨#[103, 101, 116]⟩
def tRename : ByteArray := ⟨#[114, 101, 110, 97, 109, 101]⟩
theorem low_GeT : lowT tGeT = [103, 101, 116] := by decide +kernel
theorem low_got : lowT tGot = [103, 111, 116] := by decide +kernel
theorem low_hset : lowT sHset = [104, 115, 101, 116] := by decide +kernel
theorem low_rename : lowT tRename = [114, 101, 110, 97, 109, 101] := by decide +kernel
theorem nm_get : nm 10 = tGet := by kernel_rfl
theorem nm_hset : nm 19 = sHset := by kernel_rfl
theorem nm_rename : nm 35 = tRename := by kernel_rfl
theorem no_got : (List.range 72).all (fun k => !((nm k).data.toList == [103, 111, 116])) = true := by kernel_rfl
theorem hit_get : Hit ⟨(lowT tGeT).toArray⟩ (some 10) := by rw [low_GeT]; exact ⟨by decide, nm_get⟩
theorem hit_hset : Hit ⟨(lowT sHset).toArray⟩ (some 19) := by rw [low_hset]; exact ⟨by decide, nm_hset⟩
theorem hit_rename : Hit ⟨(lowT tRename).toArray⟩ (some 35) := by rw [low_rename]; exact ⟨by decide, nm_rename⟩
theorem hit_got : Hit ⟨(lowT tGot).toArray⟩ none := by
  rw [low_got]
  intro j hj e
  have h := List.all_eq_true.1 no_got j (List.mem_range.2 hj)
  rw [e] at h
  exact absurd h (by decide)
theorem find_get (w : World) : Calls Tryd.prog 20 #[.string ⟨#[71, 101, 84]⟩] w fun e w' => e = .returned (.tuple #[specV 10, .bool true]) ∧ Below w.heap.size w w' :=
  (find_all tGeT w (by decide)).mono fun e w' ⟨o, ho, he, hb⟩ => by obtain rfl := hit_one ho hit_get; exact ⟨he, hb⟩
theorem find_got (w : World) : Calls Tryd.prog 20 #[.string ⟨#[103, 111, 116]⟩] w fun e w' => e = .returned (.tuple #[specN, .bool false]) ∧ Below w.heap.size w w' :=
  (find_all tGot w (by decide)).mono fun e w' ⟨o, ho, he, hb⟩ => by obtain rfl := hit_one ho hit_got; exact ⟨he, hb⟩
theorem find_rename (w : World) : Calls Tryd.prog 20 #[.string ⟨#[114, 101, 110, 97, 109, 101]⟩] w fun e w' => e = .returned (.tuple #[specV 35, .bool true]) ∧ Below w.heap.size w w' :=
  (find_all tRename w (by decide)).mono fun e w' ⟨o, ho, he, hb⟩ => by obtain rfl := hit_one ho hit_rename; exact ⟨he, hb⟩
theorem chk_hset : chk (some 19) [sHset, ⟨#[107]⟩, ⟨#[102]⟩] = some sWrong := by
  have : badL 19 3 = true := by kernel_rfl
  show (if badL 19 3 = true then some sWrong else if ([sHset, ⟨#[107]⟩, ⟨#[102]⟩].any (fun s => decide (65536 < s.size))) = true then some sSize else none) = some sWrong
  rw [if_pos this]
theorem chk_rename : chk (some 35) [tRename, ⟨#[97]⟩, ⟨#[98]⟩] = none := by
  have : badL 35 3 = false := by kernel_rfl
  show (if badL 35 3 = true then some sWrong else if ([tRename, ⟨#[97]⟩, ⟨#[98]⟩].any (fun s => decide (65536 < s.size))) = true then some sSize else none) = none
  rw [if_neg (by rw [this]; decide), if_neg (by decide)]
theorem rename_keys : iv 35 5 = 1 ∧ iv 35 6 = 2 := ⟨by kernel_rfl, by kernel_rfl⟩
theorem get_layer : iv 10 8 = 20 := by kernel_rfl
/-- three texts in a block -/
theorem strs3 (w : World) (g : Nat) (a b c : ByteArray) (hg : g < w.heap.size) (h0 : w.cell? ⟨g, 0, none⟩ = some (.string a)) (h1 : w.cell? ⟨g, 1, none⟩ = some (.string b)) (h2 : w.cell? ⟨g, 2, none⟩ = some (.string c)) : Strs w (some ⟨g, 0, none⟩) [a, b, c] := by
  intro i hi
  refine ⟨g, 0, rfl, hg, ?_⟩
  match i, hi with
  | 0, _ => simpa using h0
  | 1, _ => simpa using h1
  | 2, _ => simpa using h2
theorem check_hset (g : Nat) (w : World) (hS : Strs w (some ⟨g, 0, none⟩) [sHset, ⟨#[107]⟩, ⟨#[102]⟩]) :
    Calls Tryd.prog 5 #[.slice (some ⟨g, 0, none⟩) 3 3] w fun e w' => e = .returned (.tuple #[repV 2 sWrong, .bool true]) ∧ Below w.heap.size w w' :=
  (check_any _ [sHset, ⟨#[107]⟩, ⟨#[102]⟩] 3 w (by decide) (by decide) (by decide) (by decide) hS).mono fun e w' ⟨o, ho, he, hb⟩ => by
    obtain rfl := hit_one ho hit_hset
    rw [chk_hset] at he
    exact ⟨he, hb⟩
theorem check_rename (g : Nat) (w : World) (hS : Strs w (some ⟨g, 0, none⟩) [tRename, ⟨#[97]⟩, ⟨#[98]⟩]) :
    Calls Tryd.prog 5 #[.slice (some ⟨g, 0, none⟩) 3 3] w fun e w' => e = .returned (.tuple #[repV 0 ⟨#[]⟩, .bool false]) ∧ Below w.heap.size w w' :=
  (check_any _ [tRename, ⟨#[97]⟩, ⟨#[98]⟩] 3 w (by decide) (by decide) (by decide) (by decide) hS).mono fun e w' ⟨o, ho, he, hb⟩ => by
    obtain rfl := hit_one ho hit_rename
    rw [chk_rename] at he
    exact ⟨he, hb⟩

theorem cell_last (w : World) (o : Obj) (a b : Value) (r : Array Value) (t : TypeId) : (((w.alloc o).alloc (.cells (#[a, b] ++ r) t)).drew).cell? ⟨w.heap.size + 1, 1, none⟩ = some b := by
  have h := heap_alloc_last (w.alloc o) (.cells (#[a, b] ++ r) t)
  have hs : (w.alloc o).heap.size = w.heap.size + 1 := by simp
  rw [hs] at h
  show ((w.alloc o).alloc (.cells (#[a, b] ++ r) t)).cell? _ = _
  rw [cell_of_row _ _ 1 _ t (0, 0) h, Array.getElem?_append_left (Nat.lt_succ_self 1)]
  rfl

set_option maxHeartbeats 1000000 in
set_option maxRecDepth 100000 in
theorem keys_rename (g : Nat) (w : World) (hS : Strs w (some ⟨g, 0, none⟩) [tRename, ⟨#[97]⟩, ⟨#[98]⟩]) :
    Calls Tryd.prog 7 #[.slice (some ⟨g, 0, none⟩) 3 3] w fun e w' => (∃ v c, e = .returned (.slice (some ⟨v, 0, none⟩) 2 c) ∧ w'.cell? ⟨v, 1, none⟩ = some (.string ⟨#[98]⟩)) ∧ Below w.heap.size w w' := by
  obtain ⟨_, _, he0, hg, h0⟩ := hS 0 (by decide)
  obtain ⟨_, _, he1, _, h1⟩ := hS 1 (by decide)
  obtain ⟨_, _, he2, _, h2⟩ := hS 2 (by decide)
  cases he0
  cases he1
  cases he2
  simp at h0 h1 h2
  have HC := Lib.hid (check_rename g w hS)
  clear hS
  go_enter Tryd.func7, Tryd.ntmps7
  go_wp2_with fail
  refine HC.out.mono ?_
  rintro e w1 ⟨rfl, b1⟩
  rw [← b1.cell (p := ⟨g, 0, none⟩) hg] at h0
  rw [← b1.cell (p := ⟨g, 1, none⟩) hg] at h1
  rw [← b1.cell (p := ⟨g, 2, none⟩) hg] at h2
  have hg1 : g < w1.heap.size := Nat.lt_of_lt_of_le hg b1.size
  have B1 := Lib.hid b1
  clear b1 HC
  unfold repV
  go_wp2_with fail
  refine (find_rename _).mono ?_
  rintro e w2 ⟨rfl, b2⟩
  have hg2 : g < (w1.alloc (.cells rep0 28)).heap.size := by simp; omega
  rw [← World.cell?_alloc_past (.cells rep0 28) g 0 hg1, ← b2.cell (p := ⟨g, 0, none⟩) hg2] at h0
  rw [← World.cell?_alloc_past (.cells rep0 28) g 1 hg1, ← b2.cell (p := ⟨g, 1, none⟩) hg2] at h1
  rw [← World.cell?_alloc_past (.cells rep0 28) g 2 hg1, ← b2.cell (p := ⟨g, 2, none⟩) hg2] at h2
  have hg3 : g < w2.heap.size := Nat.lt_of_lt_of_le hg2 b2.size
  have B2 := Lib.hid (((B1.out.alloc B1.out.size (.cells rep0 28))).trans (b2.mono (by have := B1.out.size; simp; omega)))
  clear b2
  have hf5 := rename_keys.1
  have hf6 := rename_keys.2
  unfold specV
  rw [hf5, hf6]
  go_wp2_with fail
  go_ret
  refine ⟨⟨_, _, rfl, ?_⟩, ?_⟩
  · exact cell_last _ _ _ _ _ _
  · have h := (B2.out.alloc B2.out.size (.cells (rowA 35) 54)).alloc (by have := B2.out.size; simp; omega) (.cells (#[.string ⟨#[97]⟩, .string ⟨#[98]⟩] ++ Builtin.zeroCells #[.string ⟨#[]⟩] ((Question.appendCap 2 0 9).cut (w2.tape w2.drawn (Question.appendCap 2 0 9)) - 2)) 9)
    unfold rowA at h
    rw [hf5, hf6] at h
    exact ⟨h.os, h.tape, h.output, h.size, h.block⟩

set_option maxHeartbeats 4000000 in
set_option maxRecDepth 100000 in
theorem lives_any (w : World) : Calls Tryd.prog 17 #[] w fun e w' => e = .returned (.bool true) ∧ Below w.heap.size w w' := by
  go_enter Tryd.func17, Tryd.ntmps17
  go_wp2_with fail
  refine (find_get _).mono ?_
  rintro e w1 ⟨rfl, b1⟩
  unfold specV
  rw [get_layer, nm_get]
  go_wp2_with fail
  refine (find_got _).mono ?_
  rintro e w2 ⟨rfl, b2⟩
  have s0 : w2.cell? ⟨w1.heap.size, 0, none⟩ = some (.string tGet) := by rw [b2.cell (by simp)]; go_simp
  have s8 : w2.cell? ⟨w1.heap.size, 8, none⟩ = some (.int .i64 20) := by rw [b2.cell (by simp)]; go_simp
  have hlt2 : w1.heap.size < w2.heap.size := by have := b2.size; simp at this; omega
  have B2 : Hid (Below w.heap.size w w2) := Lib.hid ((b1.alloc b1.size _).trans (b2.mono (by have := b1.size; simp; omega)))
  have BS : Hid (w.heap.size ≤ w2.heap.size) := Lib.hid B2.out.size
  obtain ⟨gS, hgS⟩ : ∃ gS, gS = w1.heap.size := ⟨_, rfl⟩
  rw [← hgS] at s0 s8 hlt2 ⊢
  clear b1 b2 hgS
  unfold specN
  go_wp2_with fail
  obtain ⟨w3, hw3⟩ : ∃ w3, w3 = (w2.alloc (.cells nines0 54)).alloc (.cells #[.string ⟨#[104, 115, 101, 116]⟩, .string ⟨#[107]⟩, .string ⟨#[102]⟩] 9) := ⟨_, rfl⟩
  have hS3 : Strs w3 (some ⟨w2.heap.size + 1, 0, none⟩) [sHset, ⟨#[107]⟩, ⟨#[102]⟩] := by
    rw [hw3]
    exact strs3 _ _ _ _ _ (by simp) (by go_simp; rfl) (by go_simp) (by go_simp)
  have s03 : w3.cell? ⟨gS, 0, none⟩ = some (.string tGet) := by rw [hw3]; go_simp
  have s83 : w3.cell? ⟨gS, 8, none⟩ = some (.int .i64 20) := by rw [hw3]; go_simp
  have hlt3 : gS < w3.heap.size := by rw [hw3]; simp; omega
  have B3 : Hid (Below w.heap.size w w3) := Lib.hid (by rw [hw3]; exact (B2.out.alloc B2.out.size _).alloc (by have := B2.out.size; simp; omega) _)
  rw [← hw3]
  clear hw3 s0 s8 hlt2 B2
  refine (check_hset _ w3 hS3).mono ?_
  rintro e w4 ⟨rfl, b4⟩
  have s04 := (b4.cell (p := ⟨gS, 0, none⟩) hlt3).trans s03
  have s84 := (b4.cell (p := ⟨gS, 8, none⟩) hlt3).trans s83
  have hlt4 : gS < w4.heap.size := Nat.lt_of_lt_of_le hlt3 b4.size
  have B4 : Hid (Below w.heap.size w w4) := Lib.hid (B3.out.trans (b4.mono B3.out.size))
  clear b4 s03 s83 hlt3 B3 hS3
  unfold repV
  go_wp2_with fail
  obtain ⟨gR, hgR⟩ : ∃ gR, gR = w4.heap.size := ⟨_, rfl⟩
  obtain ⟨w5, hw5⟩ : ∃ w5, w5 = (w4.alloc (.cells #[.int .u8 2, .string sWrong, .int .i64 0, .slice none 0 0] 28)).alloc (.cells #[.string ⟨#[114, 101, 110, 97, 109, 101]⟩, .string ⟨#[97]⟩, .string ⟨#[98]⟩] 9) := ⟨_, rfl⟩
  have hS5 : Strs w5 (some ⟨w4.heap.size + 1, 0, none⟩) [tRename, ⟨#[97]⟩, ⟨#[98]⟩] := by
    rw [hw5]
    exact strs3 _ _ _ _ _ (by simp) (by go_simp; rfl) (by go_simp) (by go_simp)
  have s05 : w5.cell? ⟨gS, 0, none⟩ = some (.string tGet) := by rw [hw5]; go_simp
  have s85 : w5.cell? ⟨gS, 8, none⟩ = some (.int .i64 20) := by rw [hw5]; go_simp
  have r5 : w5.cell? ⟨w4.heap.size, 1, none⟩ = some (.string sWrong) := by rw [hw5]; go_simp
  have hlt5 : gS < w5.heap.size := by rw [hw5]; simp; omega
  have hlr5 : w4.heap.size < w5.heap.size := by rw [hw5]; simp; omega
  have B5 : Hid (Below w.heap.size w w5) := Lib.hid (by rw [hw5]; exact (B4.out.alloc B4.out.size _).alloc (by have := B4.out.size; simp; omega) _)
  rw [← hw5]
  clear hw5 s04 s84 hlt4 B4
  rw [← hgR] at hS5 r5 hlr5 ⊢
  clear hgR
  refine (keys_rename _ w5 hS5).mono ?_
  rintro e w6 ⟨⟨v, c, rfl, hv⟩, b6⟩
  have s06 := (b6.cell (p := ⟨gS, 0, none⟩) hlt5).trans s05
  have s86 := (b6.cell (p := ⟨gS, 8, none⟩) hlt5).trans s85
  have r6 := (b6.cell (p := ⟨gR, 1, none⟩) hlr5).trans r5
  have B6 : Hid (Below w.heap.size w w6) := Lib.hid (B5.out.trans (b6.mono B5.out.size))
  clear b6 s05 s85 r5 hlt5 hlr5 B5 hS5
  have e1 : (tGet.toList == (⟨#[103, 101, 116]⟩ : ByteArray).toList) = true := beq_self_eq_true _
  have e2 : (sWrong.toList == (⟨#[69, 82, 82, 32, 119, 114, 111, 110, 103, 32, 110, 117, 109, 98, 101, 114, 32, 111, 102, 32, 97, 114, 103, 117, 109, 101, 110, 116, 115]⟩ : ByteArray).toList) = true := beq_self_eq_true _
  unfold tGet at s06
  unfold sWrong at r6
  go_wp2_with fail
  go_ret
  exact ⟨rfl, B6.out⟩
end Go.Proofs.YtpanbijlfijgfaaDoor.Fnd
