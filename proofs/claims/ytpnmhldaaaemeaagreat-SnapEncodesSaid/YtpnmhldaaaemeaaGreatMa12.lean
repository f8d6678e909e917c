import Derived.Test.YtpnmhldaaaemeaaGreatMa11
import Derived.Test.YtpnmhldaaaemeaaGreatMa0
import Derived.Laws.AppendOwn
import Derived.Lib.AppendStr
import Derived.Laws.CopyRow
import Derived.WalkKit
import Derived.LoopTactic
import Derived.OwnWalk
import Derived.WalkLawsBesides
import Derived.WalkSpells
import Derived.Test.YtpnmhldaaaemeaaGreatMa3
import Derived.Lib.ConvBytes
/- Chapter 24: twins are as they were. Printed by gen_left24.py items. -/

namespace Go.Proofs.YtpnmhldaaaemeaaGreat.Snp
open Go.RowKit Go.Proofs.YtpnmhldaaaemeaaGreat.Pin
set_option maxHeartbeats 2000000 in
set_option maxRecDepth 100000 in
theorem left_items (l : List It) (v u : Value) (w : World) (ok : Nat → Prop) (hT : Tw_items w ok v l) (hU : ItemsAt w w.heap.size u l) (hl : l.length ≤ 1048576) (hm : ∀ y ∈ l, Few y.val) :
    Calls Tryz.prog 11 #[v, u] w fun e w' => e = .returned (.bool true) ∧ Below w.heap.size w w' := by
  have HTW := Lib.hid hT
  obtain ⟨g, rfl, -, hg, hc, -, hs⟩ := hT.cells
  obtain ⟨E, d, rfl, hU⟩ := hU
  obtain ⟨L, hL⟩ : ∃ L, L = l.length := ⟨_, rfl⟩
  have HL := Lib.hid hL
  rw [← hL] at hl hs ⊢
  have HU := Lib.hid hU
  have HC := Lib.hid hc
  have HS := Lib.hid hs
  have hq0 : ¬ ((L : Int) + 1 ≤ (L : Int)) := by omega
  clear hL hU hc hs hT
  have HM := Lib.hid hm
  clear hm
  go_enter Tryz.func11, Tryz.ntmps11
  go_wp2_with fail
  go_loopw [5] (fun i wr => ∃ k : Nat, k ≤ L ∧ i = .int .i64 k ∧ Hid (Below w.heap.size w wr)) (fun i _ => L - (intOf i).toNat)
  case atStart => exact ⟨0, Nat.zero_le _, rfl, Lib.hid (Below.refl _ _)⟩
  case round =>
    obtain ⟨k, hk, rfl, HB⟩ := hrel
    by_cases hlt : (k : Int) < (L : Int)
    · have hkl : k < l.length := by have := HL.out; omega
      obtain ⟨p, q, rfl, hp, hd⟩ := HU.out (by omega)
      obtain ⟨x, hx⟩ : ∃ x, x = l[k] := ⟨_, rfl⟩
      obtain ⟨cs, hcl, hce, hcc⟩ := HC.out k hkl
      have hdk := hd k hkl
      rw [← hx] at hce hdk
      obtain ⟨b, rfl, hbv⟩ := hce
      obtain ⟨c, ka, kv⟩ := hdk
      have x0 : wr.cell? ⟨g, k * 12, none⟩ = some (.int .i64 x.db) := (HB.out.cell (p := ⟨g, _, none⟩) hg).trans (by have := hcc 0 _ rfl; simpa using this)
      have x1 : wr.cell? ⟨g, k * 12 + 1, none⟩ = some (.string x.key) := (HB.out.cell (p := ⟨g, _, none⟩) hg).trans (by have := hcc 1 _ rfl; simpa using this)
      have x2 : wr.cell? ⟨g, k * 12 + 2, none⟩ = some (.int .u8 (x.val.kind : Int)) := (HB.out.cell (p := ⟨g, _, none⟩) hg).trans (by have := hcc 2 _ rfl; simpa using this)
      have x3 : wr.cell? ⟨g, k * 12 + 3, none⟩ = some (.string x.val.text) := (HB.out.cell (p := ⟨g, _, none⟩) hg).trans (by have := hcc 3 _ rfl; simpa using this)
      have x4 : wr.cell? ⟨g, k * 12 + 4, none⟩ = some b.lv := (HB.out.cell (p := ⟨g, _, none⟩) hg).trans (by have := hcc 4 _ rfl; simpa using this)
      have x5 : wr.cell? ⟨g, k * 12 + 5, none⟩ = some b.hv := (HB.out.cell (p := ⟨g, _, none⟩) hg).trans (by have := hcc 5 _ rfl; simpa using this)
      have x6 : wr.cell? ⟨g, k * 12 + 6, none⟩ = some b.sv := (HB.out.cell (p := ⟨g, _, none⟩) hg).trans (by have := hcc 6 _ rfl; simpa using this)
      have x7 : wr.cell? ⟨g, k * 12 + 7, none⟩ = some b.zv := (HB.out.cell (p := ⟨g, _, none⟩) hg).trans (by have := hcc 7 _ rfl; simpa using this)
      have x8 : wr.cell? ⟨g, k * 12 + 8, none⟩ = some b.ev := (HB.out.cell (p := ⟨g, _, none⟩) hg).trans (by have := hcc 8 _ rfl; simpa using this)
      have x9 : wr.cell? ⟨g, k * 12 + 9, none⟩ = some (.int .u64 (x.val.ms : Int)) := (HB.out.cell (p := ⟨g, _, none⟩) hg).trans (by have := hcc 9 _ rfl; simpa using this)
      have x10 : wr.cell? ⟨g, k * 12 + 10, none⟩ = some (.int .u64 (x.val.seq : Int)) := (HB.out.cell (p := ⟨g, _, none⟩) hg).trans (by have := hcc 10 _ rfl; simpa using this)
      have x11 : wr.cell? ⟨g, k * 12 + 11, none⟩ = some (.int .i64 x.dead) := (HB.out.cell (p := ⟨g, _, none⟩) hg).trans (by have := hcc 11 _ rfl; simpa using this)
      have y0 : wr.cell? ⟨p, q + k * 12, none⟩ = some (.int .i64 x.db) := (HB.out.cell (p := ⟨p, _, none⟩) hp).trans (ka 0 _ rfl)
      have y1 : wr.cell? ⟨p, q + k * 12 + 1, none⟩ = some (.string x.key) := (HB.out.cell (p := ⟨p, _, none⟩) hp).trans (ka 1 _ rfl)
      have y2 : wr.cell? ⟨p, q + k * 12 + 2, none⟩ = some (.int .u8 (x.val.kind : Int)) := (HB.out.cell (p := ⟨p, _, none⟩) hp).trans (ka 2 _ rfl)
      have y3 : wr.cell? ⟨p, q + k * 12 + 3, none⟩ = some (.string x.val.text) := (HB.out.cell (p := ⟨p, _, none⟩) hp).trans (ka 3 _ rfl)
      have y4 : wr.cell? ⟨p, q + k * 12 + 4, none⟩ = some c.lv := (HB.out.cell (p := ⟨p, _, none⟩) hp).trans (ka 4 _ rfl)
      have y5 : wr.cell? ⟨p, q + k * 12 + 5, none⟩ = some c.hv := (HB.out.cell (p := ⟨p, _, none⟩) hp).trans (ka 5 _ rfl)
      have y6 : wr.cell? ⟨p, q + k * 12 + 6, none⟩ = some c.sv := (HB.out.cell (p := ⟨p, _, none⟩) hp).trans (ka 6 _ rfl)
      have y7 : wr.cell? ⟨p, q + k * 12 + 7, none⟩ = some c.zv := (HB.out.cell (p := ⟨p, _, none⟩) hp).trans (ka 7 _ rfl)
      have y8 : wr.cell? ⟨p, q + k * 12 + 8, none⟩ = some c.ev := (HB.out.cell (p := ⟨p, _, none⟩) hp).trans (ka 8 _ rfl)
      have y9 : wr.cell? ⟨p, q + k * 12 + 9, none⟩ = some (.int .u64 (x.val.ms : Int)) := (HB.out.cell (p := ⟨p, _, none⟩) hp).trans (ka 9 _ rfl)
      have y10 : wr.cell? ⟨p, q + k * 12 + 10, none⟩ = some (.int .u64 (x.val.seq : Int)) := (HB.out.cell (p := ⟨p, _, none⟩) hp).trans (ka 10 _ rfl)
      have y11 : wr.cell? ⟨p, q + k * 12 + 11, none⟩ = some (.int .i64 x.dead) := (HB.out.cell (p := ⟨p, _, none⟩) hp).trans (ka 11 _ rfl)
      have HCALL := Lib.hid (fun n => left_item x b c (wr.drewN n) ok (hbv.keep (below_drewN HB.out n).size (fun r _ hr => (below_drewN HB.out n).block r hr)) ((kv.below (below_drewN HB.out n)).more HB.out.size) (by rw [hx]; exact HM.out _ (List.getElem_mem hkl)))
      clear hx hd ka kv hcc hcl hbv
      go_wp2_with fail
      refine wp_region_q [0,0,0,1,0,0,0,1,2,0] (by kernel_rfl) (by kernel_rfl) ?_
      (refine q_pure_n rfl (fun K hK => ?_); go_simp; refine hK _ _ ?_; clear hK K)
      (refine q_pure_n rfl (fun K hK => ?_); go_simp; refine hK _ _ ?_; clear hK K)
      (refine q_pure_n rfl (fun K hK => ?_); go_simp; refine hK _ _ ?_; clear hK K)
      (refine q_read_n rfl (fun K hK => ?_); go_simp; refine hK _ _ ?_; clear hK K)
      (refine q_pure_n rfl (fun K hK => ?_); go_simp; refine hK _ _ ?_; clear hK K)
      (refine q_pure_n rfl (fun K hK => ?_); go_simp; refine hK _ _ ?_; clear hK K)
      (refine q_pure_n rfl (fun K hK => ?_); go_simp; refine hK _ _ ?_; clear hK K)
      (refine q_read_n rfl (fun K hK => ?_); go_simp; refine hK _ _ ?_; clear hK K)
      (refine q_write_n rfl (fun K hK => ?_); go_simp; intro nw; refine (HCALL.out _).mono ?_; rintro e w3 ⟨rfl, hb3⟩; obtain ⟨w3, rfl⟩ : ∃ w5, w3 = World.drewN w5 0 := ⟨w3, rfl⟩; have HB3 : Hid (Below w.heap.size w w3) := Lib.hid ((below_drewN HB.out _).trans (hb3.mono HB.out.size)); clear hb3; refine ⟨_, rfl, _, ⟨_, rfl⟩, hK _ _ ?_⟩; clear hK K)
      (refine q_pure_n rfl (fun K hK => ?_); go_simp; refine hK _ _ ?_; clear hK K)
      refine q_nil ?_
      intro nq
      go_wp2_with fail
      exact ⟨⟨k + 1, by omega, by go_num, Lib.hid (below_drewN HB3.out _)⟩, by simp [intOf]; omega⟩
    · have hkL : k = L := by omega
      have s0 : wr.cell? ⟨g, L * 12, none⟩ = some (.int .i64 0) := (HB.out.cell (p := ⟨g, _, none⟩) hg).trans (by have := HS.out 0 _ rfl; simpa using this)
      have s1 : wr.cell? ⟨g, L * 12 + 1, none⟩ = some (.string ⟨#[115, 112, 97, 114, 101]⟩) := (HB.out.cell (p := ⟨g, _, none⟩) hg).trans (by have := HS.out 1 _ rfl; simpa using this)
      have s2 : wr.cell? ⟨g, L * 12 + 2, none⟩ = some (.int .u8 0) := (HB.out.cell (p := ⟨g, _, none⟩) hg).trans (by have := HS.out 2 _ rfl; simpa using this)
      have s3 : wr.cell? ⟨g, L * 12 + 3, none⟩ = some (.string ⟨#[]⟩) := (HB.out.cell (p := ⟨g, _, none⟩) hg).trans (by have := HS.out 3 _ rfl; simpa using this)
      have s4 : wr.cell? ⟨g, L * 12 + 4, none⟩ = some (.slice none 0 0) := (HB.out.cell (p := ⟨g, _, none⟩) hg).trans (by have := HS.out 4 _ rfl; simpa using this)
      have s5 : wr.cell? ⟨g, L * 12 + 5, none⟩ = some (.slice none 0 0) := (HB.out.cell (p := ⟨g, _, none⟩) hg).trans (by have := HS.out 5 _ rfl; simpa using this)
      have s6 : wr.cell? ⟨g, L * 12 + 6, none⟩ = some (.slice none 0 0) := (HB.out.cell (p := ⟨g, _, none⟩) hg).trans (by have := HS.out 6 _ rfl; simpa using this)
      have s7 : wr.cell? ⟨g, L * 12 + 7, none⟩ = some (.slice none 0 0) := (HB.out.cell (p := ⟨g, _, none⟩) hg).trans (by have := HS.out 7 _ rfl; simpa using this)
      have s8 : wr.cell? ⟨g, L * 12 + 8, none⟩ = some (.slice none 0 0) := (HB.out.cell (p := ⟨g, _, none⟩) hg).trans (by have := HS.out 8 _ rfl; simpa using this)
      have s9 : wr.cell? ⟨g, L * 12 + 9, none⟩ = some (.int .u64 0) := (HB.out.cell (p := ⟨g, _, none⟩) hg).trans (by have := HS.out 9 _ rfl; simpa using this)
      have s10 : wr.cell? ⟨g, L * 12 + 10, none⟩ = some (.int .u64 0) := (HB.out.cell (p := ⟨g, _, none⟩) hg).trans (by have := HS.out 10 _ rfl; simpa using this)
      have s11 : wr.cell? ⟨g, L * 12 + 11, none⟩ = some (.int .i64 0) := (HB.out.cell (p := ⟨g, _, none⟩) hg).trans (by have := HS.out 11 _ rfl; simpa using this)
      clear hkL
      go_wp2_with fail
      go_ret
      exact ⟨rfl, HB.out.alloc HB.out.size _⟩
end Go.Proofs.YtpnmhldaaaemeaaGreat.Snp
/- Chapter 24: a row of bytes that grows (a writer's), and what a call that writes on it leaves of the world. -/
namespace Go.Proofs.YtpnmhldaaaemeaaGreat.Snp
open Go.RowKit Go.Proofs.YtpnmhldaaaemeaaGreat.Pin

theorem info_byte : (Tryz.prog.info? 5).map (fun i => (i.zero, i.size, i.bytes)) = some (some (.int .u8 0), 1, 1) := by kernel_rfl
/-- bytes as cells -/
def bcs (l : List UInt8) : List Value := l.map fun b => Value.int .u8 b.toNat
theorem bcs_len (l : List UInt8) : (bcs l).length = l.length := by simp [bcs]
theorem bcs_append (a b : List UInt8) : bcs (a ++ b) = bcs a ++ bcs b := by simp [bcs]
theorem bcs_one (l : List UInt8) : ∀ u ∈ bcs l, u.oneCell' = true := by
  intro u hu
  obtain ⟨b, _, rfl⟩ := List.mem_map.1 hu
  rfl
theorem strCells_bcs (s : ByteArray) : Lib.strCells s = bcs s.data.toList := rfl
/-- the slice v holds the bytes l in a row of its own, from block B on; a row that the run-time has marked is full -/
def Row (w : World) (B : Nat) (v : Value) (l : List UInt8) : Prop :=
  ∃ g cap cur fz, v = .slice (some ⟨g, 0, none⟩) l.length cap ∧ B ≤ g ∧ w.heap[g]? = some (.cells cur 5 fz) ∧ l.length ≤ cap ∧ cap ≤ maxLen ∧ cur.size = cap ∧ cur.toList.take l.length = bcs l ∧ (fz = (0, 0) ∨ cap = l.length)
/-- w' is w but for the row of v and new blocks; v' has the same row or a new one -/
structure Ap (w : World) (v : Value) (w' : World) (v' : Value) : Prop where
  os : w'.os = w.os
  tape : w'.tape = w.tape
  output : w'.output = w.output
  size : w.heap.size ≤ w'.heap.size
  block : ∀ k, k < w.heap.size → v.ownBlock ≠ some k → w'.heap[k]? = w.heap[k]?
  row : v'.ownBlock = v.ownBlock ∨ ∃ r, v'.ownBlock = some r ∧ w.heap.size ≤ r
theorem Ap.refl (w : World) (v : Value) : Ap w v w v := ⟨rfl, rfl, rfl, Nat.le_refl _, fun _ _ _ => rfl, .inl rfl⟩
theorem Ap.trans {a b c : World} {v v' v'' : Value} (h : Ap a v b v') (k : Ap b v' c v'') : Ap a v c v'' := by
  refine ⟨k.os.trans h.os, k.tape.trans h.tape, k.output.trans h.output, Nat.le_trans h.size k.size, fun i hi hne => ?_, ?_⟩
  · refine (k.block i (Nat.lt_of_lt_of_le hi h.size) ?_).trans (h.block i hi hne)
    rcases h.row with e | ⟨r, e, hr⟩
    · rw [e]; exact hne
    · rw [e]; intro e2; have : r = i := by simpa using e2
      omega
  · rcases k.row with e | ⟨r, e, hr⟩
    · rw [e]; exact h.row
    · exact .inr ⟨r, e, Nat.le_trans h.size hr⟩
theorem Ap.alloc (w : World) (v : Value) (o : Obj) : Ap w v (w.alloc o) v := ⟨rfl, rfl, rfl, by simp, fun k hk _ => heap_alloc_old w o hk, .inl rfl⟩
theorem Ap.drewN {w w' : World} {v v' : Value} (h : Ap w v w' v') (n : Nat) : Ap w v (w'.drewN n) v' := ⟨h.os, h.tape, h.output, h.size, h.block, h.row⟩
theorem Row.kept {w w' : World} {B : Nat} {v : Value} {l : List UInt8} (h : Row w B v l) (hk : ∀ g, v.ownBlock = some g → w'.heap[g]? = w.heap[g]?) : Row w' B v l := by
  obtain ⟨g, cap, cur, fz, rfl, hB, hg, rest⟩ := h
  exact ⟨g, cap, cur, fz, rfl, hB, (hk g rfl).trans hg, rest⟩
theorem Row.lt {w : World} {B : Nat} {v : Value} {l : List UInt8} (h : Row w B v l) : ∀ g, v.ownBlock = some g → B ≤ g ∧ g < w.heap.size := by
  obtain ⟨g, cap, cur, fz, rfl, hB, hg, rest⟩ := h
  intro k hk
  obtain rfl : g = k := by simpa [Value.ownBlock] using hk
  exact ⟨hB, (Array.getElem?_eq_some_iff.1 hg).1⟩
theorem Row.slice {w : World} {B : Nat} {v : Value} {l : List UInt8} (h : Row w B v l) : ∃ g cap, v = .slice (some ⟨g, 0, none⟩) l.length cap := by
  obtain ⟨g, cap, cur, fz, rfl, rest⟩ := h
  exact ⟨g, cap, rfl⟩
theorem Row.alloc {w : World} {B : Nat} {v : Value} {l : List UInt8} (h : Row w B v l) (o : Obj) : Row (w.alloc o) B v l := h.kept fun g hg => heap_alloc_old w o (h.lt g hg).2
theorem Row.drewN {w : World} {B : Nat} {v : Value} {l : List UInt8} (h : Row w B v l) (n : Nat) : Row (w.drewN n) B v l := h
theorem Row.below {w w' : World} {B : Nat} {v v' : Value} {l : List UInt8} (h : Row w B v l) (ha : Ap w v w' v') : Below B w w' :=
  ⟨ha.os, ha.tape, ha.output, ha.size, fun k hk => by
    by_cases hw : k < w.heap.size
    · exact ha.block k hw fun e => by have := (h.lt k e).1; omega
    · obtain ⟨g, cap, cur, fz, rfl, hB, hg, _⟩ := h
      have := (Array.getElem?_eq_some_iff.1 hg).1
      omega⟩
theorem Row.cells {w : World} {B : Nat} {v : Value} {l : List UInt8} (h : Row w B v l) {g : Nat} (hg : v.ownBlock = some g) : ∀ j u, (bcs l)[j]? = some u → w.cell? ((⟨g, 0, none⟩ : Addr).add j) = some u := by
  obtain ⟨g', cap, cur, fz, rfl, hB, hgg, _, _, _, ht, _⟩ := h
  intro j u hu
  obtain rfl : g' = g := by simpa [Value.ownBlock] using hg
  have hadd : (⟨g', 0, none⟩ : Addr).add j = ⟨g', j, none⟩ := by unfold Addr.add; split <;> simp_all
  rw [hadd, cell_of_row w g' j cur _ fz hgg]
  rw [← ht, List.getElem?_take] at hu
  split at hu
  · simpa using hu
  · cases hu
/-- a new row, behind a row that had no room -/
theorem row_new {w : World} {B : Nat} {v : Value} (l m : List UInt8) (c : Nat) (hB : B ≤ w.heap.size) (hb : l.length + m.length ≤ c) (hc : c ≤ maxLen) :
    Row (w.drew.alloc (.cells ((bcs l).toArray ++ (bcs m).toArray ++ Builtin.zeroCells (Value.int .u8 0).cells (c - (l.length + m.length))) 5)) B (.slice (some ⟨w.heap.size, 0, none⟩) (l.length + m.length) c) (l ++ m) ∧
    Ap w v (w.drew.alloc (.cells ((bcs l).toArray ++ (bcs m).toArray ++ Builtin.zeroCells (Value.int .u8 0).cells (c - (l.length + m.length))) 5)) (.slice (some ⟨w.heap.size, 0, none⟩) (l.length + m.length) c) := by
  refine ⟨⟨w.heap.size, c, _, (0, 0), by simp, hB, heap_alloc_new w.drew _, by simpa using hb, hc, ?_, ?_, .inl rfl⟩, ⟨rfl, rfl, rfl, by simp, fun k hk _ => heap_alloc_old w.drew _ hk, .inr ⟨w.heap.size, rfl, Nat.le_refl _⟩⟩⟩
  · have hz1 : (Value.int IntKind.u8 0).cells.size = 1 := rfl
    simp only [Array.size_append, List.size_toArray, size_zeroCells, hz1, bcs_len]
    omega
  · simp only [Array.toList_append, List.append_assoc, bcs_append]
    rw [← List.append_assoc, show (l ++ m).length = (bcs l ++ bcs m).length by simp [bcs_len]]
    exact List.take_left
theorem row_room {w : World} {B g cap : Nat} {cur : Array Value} (l m : List UInt8) (hB : B ≤ g) (hg : w.heap[g]? = some (.cells cur 5 (0, 0))) (hr : l.length + m.length ≤ cap) (hc : cap ≤ maxLen) (hs : cur.size = cap) (ht : cur.toList.take l.length = bcs l) :
    Row (w.setRow g (cur.toList.take l.length ++ bcs m ++ cur.toList.drop (l.length + m.length)).toArray) B (.slice (some ⟨g, 0, none⟩) (l.length + m.length) cap) (l ++ m) ∧
    Ap w (.slice (some ⟨g, 0, none⟩) l.length cap) (w.setRow g (cur.toList.take l.length ++ bcs m ++ cur.toList.drop (l.length + m.length)).toArray) (.slice (some ⟨g, 0, none⟩) (l.length + m.length) cap) := by
  refine ⟨⟨g, cap, _, (0, 0), by simp, hB, setRow_heap w g cur _ _ _ hg, by simpa using hr, hc, ?_, ?_, .inl rfl⟩, ⟨rfl, rfl, rfl, by simp, fun k _ hk => setRow_other w g k _ (fun e => hk (by simp [Value.ownBlock, e])), .inl rfl⟩⟩
  · simp only [List.size_toArray, List.length_append, List.length_take, List.length_drop, Array.length_toList, bcs_len]
    omega
  · rw [ht, bcs_append, show (l ++ m).length = (bcs l ++ bcs m).length by simp [bcs_len]]
    exact List.take_left
/-- bytes out of memory, behind a row -/
theorem row_append {w : World} {B : Nat} {v : Value} {l : List UInt8} (h : Row w B v l) (hB : B ≤ w.heap.size) (a : Addr) (c : Nat) (m : List UInt8) (hm : 0 < m.length) (hnews : ∀ j u, (bcs m)[j]? = some u → w.cell? (a.add j) = some u) (hb : l.length + m.length ≤ 140737488355328) (ty : TypeId) :
    ∃ v' w', (Builtin.append_ #[55, 55] ty #[v, .slice (some a) m.length c]).run Tryz.prog w = .ok v' w' ∧ Row w' B v' (l ++ m) ∧ Ap w v w' v' := by
  obtain ⟨i0, hi, hz0, hz1, hz2⟩ := info_parts info_byte
  have hcells : ∀ g, v.ownBlock = some g → ∀ j u, (bcs l)[j]? = some u → w.cell? ((⟨g, 0, none⟩ : Addr).add j) = some u := fun g hg => h.cells hg
  obtain ⟨g, cap, cur, fz, rfl, hBg, hg, hl, hc, hs, ht, hf⟩ := h
  by_cases hroom : l.length + m.length ≤ cap
  · obtain rfl : fz = (0, 0) := by rcases hf with hf | hf; exact hf; omega
    have hr := run_append_room (P := Tryz.prog) w 55 ty 5 i0 Tryz.underlying55 hi g l.length cap cur hg a m.length c (bcs m) (by rw [hz1, bcs_len]; simp) hnews (bcs_one m) hroom (by rw [hz1, bcs_len]; omega)
    rw [hz1] at hr
    simp only [Nat.mul_one, bcs_len] at hr
    exact ⟨_, _, hr, row_room l m hBg hg hroom hc hs ht⟩
  · have hr := run_append_grow (P := Tryz.prog) w 55 ty 5 i0 (.int .u8 0) Tryz.underlying55 hi hz0 ⟨g, 0, none⟩ l.length cap (bcs l) (by rw [hz1, bcs_len]; simp) (hcells g rfl) a m.length c (bcs m) (by rw [hz1, bcs_len]; simp) hnews (by omega) (by omega) (growslice_fits (by omega) (by rw [hz2]; omega))
    exact ⟨_, _, hr, row_new l m _ hB (grownCap_ge w _ _ _) (grownCap_le_maxLen w _ _ _ (by unfold maxLen; omega))⟩
/-- a text's bytes behind a row -/
theorem row_append_str {w : World} {B : Nat} {v : Value} {l : List UInt8} (h : Row w B v l) (hB : B ≤ w.heap.size) (s : ByteArray) (hb : l.length + s.size ≤ 140737488355328) (ty : TypeId) :
    ∃ v' w', (Builtin.append_ #[55, 9] ty #[v, .string s]).run Tryz.prog w = .ok v' w' ∧ Row w' B v' (l ++ s.data.toList) ∧ Ap w v w' v' := by
  obtain ⟨i0, hi, hz0, hz1, hz2⟩ := info_parts info_byte
  have hcells : ∀ g, v.ownBlock = some g → ∀ j u, (bcs l)[j]? = some u → w.cell? ((⟨g, 0, none⟩ : Addr).add j) = some u := fun g hg => h.cells hg
  have h' := h
  have hsl : s.data.toList.length = s.size := by simp
  obtain ⟨g, cap, cur, fz, rfl, hBg, hg, hl, hc, hs, ht, hf⟩ := h
  by_cases h0 : s.size = 0
  · have hem : s.data.toList = [] := List.eq_nil_of_length_eq_zero (by rw [hsl]; exact h0)
    refine ⟨_, w, ?_, by rw [hem, List.append_nil]; exact h', Ap.refl _ _⟩
    have hf2 := Lib.run_firstCells_string (P := Tryz.prog) w 1 s
    have hsc : Lib.strCells s = [] := by rw [strCells_bcs, hem]; rfl
    rw [hsc, h0] at hf2
    simp [Builtin.append_, run_underlying Tryz.underlying55, run_underlying Tryz.underlying9, sizeOf, typeInfo, hi, hz1, Builtin.lenOf, h0, hl, hf2, storeCells]
  · by_cases hroom : l.length + s.size ≤ cap
    · obtain rfl : fz = (0, 0) := by rcases hf with hf | hf; exact hf; omega
      have hr := Lib.run_append_room_string (P := Tryz.prog) w 55 9 ty 5 i0 Tryz.underlying55 Tryz.underlying9 hi hz1 g l.length cap cur hg s hroom (by omega)
      have := row_room (w := w) l s.data.toList hBg hg (by rw [hsl]; exact hroom) hc hs ht
      rw [hsl] at this
      exact ⟨_, _, hr, this⟩
    · have hr := Lib.run_append_grow_string (P := Tryz.prog) w 55 9 ty 5 i0 (.int .u8 0) Tryz.underlying55 Tryz.underlying9 hi hz0 ⟨g, 0, none⟩ l.length cap (bcs l) (by rw [hz1, bcs_len]; simp) (hcells g rfl) s (by omega) (by omega) (growslice_fits (by omega) (by rw [hz2]; omega))
      have := row_new (w := w) (v := .slice (some ⟨g, 0, none⟩) l.length cap) l s.data.toList (grownCap w (l.length + s.size) cap 5) hB (by rw [hsl]; exact grownCap_ge w _ _ _) (grownCap_le_maxLen w _ _ _ (by unfold maxLen; omega))
      rw [hsl] at this
      exact ⟨_, _, hr, this⟩
/-! ### For the walk -/
theorem wpList_row_append {ops : Array Oper} {rest : List Oper} {o : Oper} {a : Act} {Q : Exit → Act → World → Prop} {w : World} (hgd : o.guard = none) (sl x : Operand)
    (ho : o.op = .call { callee := .builtin .append, args := #[sl, x], argTypes := #[55, 55] }) {B : Nat} {v : Value} {l : List UInt8} (hs : a.eval sl = v) (h : Row w B v l) (hB : B ≤ w.heap.size) (ad : Addr) (k c : Nat) (m : List UInt8) (hx : a.eval x = .slice (some ad) k c) (hk : m.length = k) (hm : 0 < m.length)
    (hnews : ∀ j u, (bcs m)[j]? = some u → w.cell? (ad.add j) = some u) (hb : l.length + m.length ≤ 140737488355328)
    (hK : ∀ v' w', Row w' B v' (l ++ m) → Ap w v w' v' → wpList Tryz.prog ops Q rest (a.put o.dst v') w') : wpList Tryz.prog ops Q (o :: rest) a w := by
  refine wpList_plain hgd fun K hK' => ?_
  obtain ⟨v', w', hr, h2, h3⟩ := row_append h hB ad c m hm hnews hb o.type
  subst hk
  unfold Oper.wp execOp
  simp only [ho, resolve, invoke, builtin, Sem.run_bind, Sem.run_pure, Result.andThen_ok, List.map_toArray, List.map_cons, List.map_nil, hs, hx, hr]
  exact hK' _ _ (hK v' w' h2 h3)
theorem wpList_row_str {ops : Array Oper} {rest : List Oper} {o : Oper} {a : Act} {Q : Exit → Act → World → Prop} {w : World} (hgd : o.guard = none) (sl x : Operand)
    (ho : o.op = .call { callee := .builtin .append, args := #[sl, x], argTypes := #[55, 9] }) {B : Nat} {v : Value} {l : List UInt8} (hs : a.eval sl = v) (h : Row w B v l) (hB : B ≤ w.heap.size) (s : ByteArray) (hx : a.eval x = .string s) (hb : l.length + s.size ≤ 140737488355328)
    (hK : ∀ v' w', Row w' B v' (l ++ s.data.toList) → Ap w v w' v' → wpList Tryz.prog ops Q rest (a.put o.dst v') w') : wpList Tryz.prog ops Q (o :: rest) a w := by
  refine wpList_plain hgd fun K hK' => ?_
  obtain ⟨v', w', hr, h2, h3⟩ := row_append_str h hB s hb o.type
  unfold Oper.wp execOp
  simp only [ho, resolve, invoke, builtin, Sem.run_bind, Sem.run_pure, Result.andThen_ok, List.map_toArray, List.map_cons, List.map_nil, hs, hx, hr]
  exact hK' _ _ (hK v' w' h2 h3)
end Go.Proofs.YtpnmhldaaaemeaaGreat.Snp
/- Chapter 24: octets.Append, and what a writer writes. -/
namespace Go.Proofs.YtpnmhldaaaemeaaGreat.Snp
open Go.RowKit Go.Proofs.YtpnmhldaaaemeaaGreat.Pin

/-- a number, the lowest byte first -/
def leB (n k : Nat) : List UInt8 := (List.range k).map fun i => UInt8.ofNat (n / 256 ^ i)
theorem leB_zero (n : Nat) : leB n 0 = [] := rfl
theorem leB_succ (n k : Nat) : leB n (k + 1) = leB n k ++ [UInt8.ofNat (n / 256 ^ k)] := by simp [leB, List.range_succ]
theorem div_step (n j : Nat) : ((n / 256 ^ j : Nat) : Int) / 256 = ((n / 256 ^ (j + 1) : Nat) : Int) := by
  rw [Nat.pow_succ, ← Nat.div_div_eq_div_mul]
  omega
theorem leB_len (n k : Nat) : (leB n k).length = k := by simp [leB]
theorem bcs_byte (m : Nat) : bcs [UInt8.ofNat m] = [.int .u8 ((m % 256 : Nat) : Int)] := by simp [bcs]
theorem one_new {w : World} {u : Value} {m : Nat} (hu : u = .int .u8 ((m % 256 : Nat) : Int)) : ∀ j x, (bcs [UInt8.ofNat m])[j]? = some x → (w.alloc (.cells #[u] 5)).cell? ((⟨w.heap.size, 0, none⟩ : Addr).add j) = some x := by
  intro j x hx
  rw [bcs_byte] at hx
  match j, hx with
  | 0, hx =>
    subst hu
    simp at hx
    subst hx
    have hb : (w.alloc (.cells #[.int .u8 ((m % 256 : Nat) : Int)] 5)).heap[w.heap.size]? = some (.cells #[.int .u8 ((m % 256 : Nat) : Int)] 5 (0, 0)) := heap_alloc_new w _
    show World.cell? _ ⟨w.heap.size, 0, none⟩ = _
    rw [Lib.cell_of_heap hb]
    rfl
  | j + 1, hx => simp at hx
set_option maxHeartbeats 1000000 in
set_option maxRecDepth 100000 in
theorem append_any (n k : Nat) (v : Value) (l : List UInt8) (B : Nat) (w : World) (h : Row w B v l) (hB : B ≤ w.heap.size) (hn : n < 18446744073709551616) (hk : k ≤ 8) (hb : l.length + k ≤ 140737488355328) :
    Calls Tryz.prog 70 #[v, .int .u64 (n : Int), .int .i64 (k : Int)] w fun e w' => ∃ v', e = .returned v' ∧ Row w' B v' (l ++ leB n k) ∧ Ap w v w' v' := by
  have HB := Lib.hid h
  have HN := Lib.hid hn
  have HL := Lib.hid hb
  clear h hn hb
  go_enter Tryz.func70, Tryz.ntmps70
  go_wp2_with fail
  go_loopw [0, 1, 8] (fun b m i wr => ∃ j : Nat, j ≤ k ∧ i = .int .i64 j ∧ m = .int .u64 ((n / 256 ^ j : Nat) : Int) ∧ Row wr B b (l ++ leB n j) ∧ Ap w v wr b) (fun _ _ i _ => k - (intOf i).toNat)
  case atStart => exact ⟨0, Nat.zero_le _, rfl, by simp, by rw [leB_zero, List.append_nil]; exact HB.out, Ap.refl _ _⟩
  case round =>
    obtain ⟨j, hj, rfl, rfl, hr, ha⟩ := hrel
    have HR := Lib.hid hr
    have HA := Lib.hid ha
    clear hr ha
    by_cases hlt : j < k
    · obtain ⟨m, hm⟩ : ∃ m, m = n / 256 ^ j := ⟨_, rfl⟩
      have HM' : Hid (m < 18446744073709551616) := Lib.hid (by rw [hm]; exact Nat.lt_of_le_of_lt (Nat.div_le_self _ _) HN.out)
      have HM := Lib.hid hm
      rw [← hm]
      clear hm
      have HBW : Hid (∀ o : Obj, B ≤ (wr.alloc o).heap.size) := Lib.hid (fun o => Nat.le_trans (Nat.le_trans hB HA.out.size) (by simp))
      have HLE : Hid ((l ++ leB n j).length + [UInt8.ofNat m].length ≤ 140737488355328) := Lib.hid (by have := HL.out; simp [leB_len]; omega)
      go_wp2_with (at_builtin; (refine wpList_row_append rfl _ _ rfl rfl (HR.out.alloc _) (HBW.out _) ⟨wr.heap.size, 0, none⟩ 1 1 [UInt8.ofNat m] rfl rfl Nat.one_pos ?c1 HLE.out ?_))
      case c1 => exact one_new (by simp)
      intro v' w1 hr1 ha1
      have HR1 := Lib.hid hr1
      have HA1 := Lib.hid ha1
      clear hr1 ha1
      go_wp2_with fail
      go_roundw
      case rel => exact ⟨j + 1, hlt, by go_num, by rw [HM.out, div_step], by rw [leB_succ, ← HM.out]; simpa only [List.append_assoc] using HR1.out, (HA.out.trans (Ap.alloc _ _ _)).trans HA1.out⟩
      case measure => simp [intOf]; omega
    · obtain rfl : j = k := by omega
      go_wp2_with fail
      go_ret
      exact ⟨_, rfl, HR.out, HA.out⟩

/-- a writer: the block g holds a slice that holds the bytes l -/
def Wr (w : World) (B g : Nat) (l : List UInt8) : Prop := ∃ v, w.heap[g]? = some (.cells #[v] 57 (0, 0)) ∧ Row w B v l ∧ v.ownBlock ≠ some g ∧ B ≤ g
/-- the row of the slice that block g holds -/
def rowAt (w : World) (g : Nat) : Option Nat := match w.heap[g]? with
  | some (.cells cs _ _) => (cs[0]?).bind Value.ownBlock
  | _ => none
theorem rowAt_of {w : World} {g : Nat} {v : Value} {t : TypeId} {fz : Nat × Nat} (h : w.heap[g]? = some (.cells #[v] t fz)) : rowAt w g = v.ownBlock := by unfold rowAt; rw [h]; rfl
/-- w' is w but for the writer g, its row and new blocks -/
structure Puts (g : Nat) (w w' : World) : Prop where
  os : w'.os = w.os
  tape : w'.tape = w.tape
  output : w'.output = w.output
  size : w.heap.size ≤ w'.heap.size
  block : ∀ k, k < w.heap.size → k ≠ g → rowAt w g ≠ some k → w'.heap[k]? = w.heap[k]?
  row : rowAt w' g = rowAt w g ∨ ∃ r, rowAt w' g = some r ∧ w.heap.size ≤ r
theorem Puts.refl (g : Nat) (w : World) : Puts g w w := ⟨rfl, rfl, rfl, Nat.le_refl _, fun _ _ _ _ => rfl, .inl rfl⟩
theorem Puts.trans {g : Nat} {a b c : World} (h : Puts g a b) (k : Puts g b c) : Puts g a c := by
  refine ⟨k.os.trans h.os, k.tape.trans h.tape, k.output.trans h.output, Nat.le_trans h.size k.size, fun i hi hg hne => ?_, ?_⟩
  · refine (k.block i (Nat.lt_of_lt_of_le hi h.size) hg ?_).trans (h.block i hi hg hne)
    rcases h.row with e | ⟨r, e, hr⟩
    · rw [e]; exact hne
    · rw [e]; intro e2; have : r = i := by simpa using e2
      omega
  · rcases k.row with e | ⟨r, e, hr⟩
    · rw [e]; exact h.row
    · exact .inr ⟨r, e, Nat.le_trans h.size hr⟩
theorem Puts.alloc (g : Nat) (w : World) (o : Obj) (hg : g < w.heap.size) : Puts g w (w.alloc o) :=
  ⟨rfl, rfl, rfl, by simp, fun k hk _ _ => heap_alloc_old w o hk, .inl (by unfold rowAt; rw [heap_alloc_old w o hg])⟩
theorem Puts.drewN {g : Nat} {w w' : World} (h : Puts g w w') (n : Nat) : Puts g w (w'.drewN n) := ⟨h.os, h.tape, h.output, h.size, h.block, h.row⟩
theorem Wr.lt {w : World} {B g : Nat} {l : List UInt8} (h : Wr w B g l) : g < w.heap.size := by
  obtain ⟨v, hb, _⟩ := h
  exact (Array.getElem?_eq_some_iff.1 hb).1
theorem Wr.ge {w : World} {B g : Nat} {l : List UInt8} (h : Wr w B g l) : B ≤ g := by
  obtain ⟨v, _, _, _, hB⟩ := h
  exact hB
theorem Wr.far {w : World} {B g : Nat} {l : List UInt8} (h : Wr w B g l) {k : Nat} (hk : k < B) : k ≠ g ∧ rowAt w g ≠ some k := by
  obtain ⟨v, hb, hr, _, hB⟩ := h
  refine ⟨by omega, ?_⟩
  rw [rowAt_of hb]
  intro e
  have := (hr.lt k e).1
  omega
theorem Wr.below {w w' : World} {B g : Nat} {l : List UInt8} (h : Wr w B g l) (hp : Puts g w w') : Below B w w' :=
  ⟨hp.os, hp.tape, hp.output, hp.size, fun k hk => hp.block k (by have := h.lt; have := h.ge; omega) (h.far hk).1 (h.far hk).2⟩
theorem Wr.alloc {w : World} {B g : Nat} {l : List UInt8} (h : Wr w B g l) (o : Obj) : Wr (w.alloc o) B g l := by
  have hl := h.lt
  obtain ⟨v, hb, hr, h1, h2⟩ := h
  exact ⟨v, (heap_alloc_old w o hl).trans hb, hr.alloc o, h1, h2⟩
theorem Wr.drewN {w : World} {B g : Nat} {l : List UInt8} (h : Wr w B g l) (n : Nat) : Wr (w.drewN n) B g l := h
/-- a new block stays, whatever the writer writes -/
theorem Puts.keep {w w1 : World} {B g : Nat} {l : List UInt8} {o : Obj} (h : Wr w B g l) (hp : Puts g (w.alloc o) w1) : w1.heap[w.heap.size]? = some o := by
  have hl := h.lt
  obtain ⟨v, hb, hr, h1, h2⟩ := h
  refine (hp.block w.heap.size (by simp) (by omega) ?_).trans (heap_alloc_new w o)
  rw [rowAt_of ((heap_alloc_old w o hl).trans hb)]
  intro e
  have := (hr.lt _ e).2
  omega
theorem setCell_setRow {w : World} {g : Nat} {v v' : Value} {t : TypeId} {fz : Nat × Nat} (h : w.heap[g]? = some (.cells #[v] t fz)) : w.setCell ⟨g, 0, none⟩ v' = w.setRow g #[v'] := by
  rw [setCell_eq_setRow w g 0 #[v] t fz v' h]
  rfl
/-- the slice is laid back into the writer -/
theorem wr_put {w w' : World} {B g : Nat} {v v' : Value} {l' : List UInt8} (hb : w.heap[g]? = some (.cells #[v] 57 (0, 0))) (h1 : v.ownBlock ≠ some g) (h2 : B ≤ g) (hr' : Row w' B v' l') (ha : Ap w v w' v') :
    Wr (w'.setCell ⟨g, 0, none⟩ v') B g l' ∧ Puts g w (w'.setCell ⟨g, 0, none⟩ v') := by
  have hl := (Array.getElem?_eq_some_iff.1 hb).1
  have hb' : w'.heap[g]? = some (.cells #[v] 57 (0, 0)) := (ha.block g hl h1).trans hb
  have hne : v'.ownBlock ≠ some g := by
    rcases ha.row with e | ⟨r, e, hr⟩
    · rw [e]; exact h1
    · rw [e]; intro e2; have : r = g := by simpa using e2
      omega
  rw [setCell_setRow hb']
  have hg' : (w'.setRow g #[v']).heap[g]? = some (.cells #[v'] 57 (0, 0)) := setRow_heap w' g #[v] _ _ _ hb'
  refine ⟨⟨v', hg', hr'.kept fun r hr => setRow_other w' g r _ (fun e => hne (by rw [hr, e])), hne, h2⟩, ⟨ha.os, ha.tape, ha.output, by simpa using ha.size, fun k hk hkg hrow => ?_, ?_⟩⟩
  · rw [setRow_other w' g k _ hkg]
    exact ha.block k hk (by rw [rowAt_of hb] at hrow; exact hrow)
  · rw [rowAt_of hg', rowAt_of hb]
    exact ha.row
theorem number_any (n k : Nat) (l : List UInt8) (B g : Nat) (w : World) (h : Wr w B g l) (hn : n < 18446744073709551616) (hk : k ≤ 8) (hb : l.length + k ≤ 140737488355328) :
    Calls Tryz.prog 15 #[.pointer (some ⟨g, 0, none⟩), .int .u64 (n : Int), .int .i64 (k : Int)] w fun e w' => e = .returned (.tuple #[]) ∧ Wr w' B g (l ++ leB n k) ∧ Puts g w w' := by
  have hlt := h.lt
  obtain ⟨v, hg, hr, h1, h2⟩ := h
  have HA := Lib.hid (append_any n k v l B w hr (by omega) hn hk hb)
  have hc : w.cell? ⟨g, 0, none⟩ = some v := by rw [Lib.cell_of_heap hg]; rfl
  have HB := Lib.hid hg
  have H1 := Lib.hid h1
  have HL := Lib.hid hlt
  clear hg hr h1 hn hb hlt
  go_enter Tryz.func15, Tryz.ntmps15
  go_wp2_with fail
  refine HA.out.mono ?_
  rintro e w' ⟨v', rfl, hr', ha⟩
  have hb' : w'.heap[g]? = some (.cells #[v] 57 (0, 0)) := (ha.block g HL.out H1.out).trans HB.out
  have hc' : w'.cell? ⟨g, 0, none⟩ = some v := by rw [Lib.cell_of_heap hb']; rfl
  have hf' : w'.frozen? ⟨g, 0, none⟩ = false := by simp [World.frozen?, hb']
  have HP := Lib.hid (wr_put HB.out H1.out h2 hr' ha)
  obtain ⟨r, cap, rfl⟩ := hr'.slice
  clear hb' hr' ha
  go_wp2_with fail
  go_end0
  exact ⟨rfl, by simpa using HP.out⟩
theorem text_any (s : ByteArray) (l : List UInt8) (B g : Nat) (w : World) (h : Wr w B g l) (hs : s.size < 18446744073709551616) (hb : l.length + 4 + s.size ≤ 140737488355328) :
    Calls Tryz.prog 16 #[.pointer (some ⟨g, 0, none⟩), .string s] w fun e w' => e = .returned (.tuple #[]) ∧ Wr w' B g (l ++ (leB s.size 4 ++ s.data.toList)) ∧ Puts g w w' := by
  have HN := Lib.hid (number_any s.size 4 l B g w h hs (by omega) (by omega))
  have HB := Lib.hid hb
  have hw : IntKind.u64.wrap (s.size : Int) = (s.size : Int) := by rw [IntKind.wrap_u64]; omega
  clear hb hs h
  go_enter Tryz.func16, Tryz.ntmps16
  go_wp2_with fail
  refine HN.out.mono ?_
  rintro e w' ⟨rfl, hw', hp⟩
  have HP := Lib.hid hp
  obtain ⟨v, hg, hr, h1, h2⟩ := hw'
  have hl' := Lib.hid (show g < w'.heap.size from (Array.getElem?_eq_some_iff.1 hg).1)
  have hB' := Lib.hid (show B ≤ w'.heap.size from by have := hl'.out; omega)
  have HG := Lib.hid hg
  have hc : w'.cell? ⟨g, 0, none⟩ = some v := by rw [Lib.cell_of_heap hg]; rfl
  have HR := Lib.hid hr
  have H1 := Lib.hid h1
  have HLE : Hid ((l ++ leB s.size 4).length + s.size ≤ 140737488355328) := Lib.hid (by have := HB.out; simp [leB_len]; omega)
  clear hg hr h1 hp
  go_wp2_with (at_builtin; (refine wpList_row_str rfl _ _ rfl rfl HR.out hB'.out s rfl HLE.out ?_))
  intro v' w1 hr' ha
  have hb' : w1.heap[g]? = some (.cells #[v] 57 (0, 0)) := (ha.block g hl'.out H1.out).trans HG.out
  have hc' : w1.cell? ⟨g, 0, none⟩ = some v := by rw [Lib.cell_of_heap hb']; rfl
  have hf' : w1.frozen? ⟨g, 0, none⟩ = false := by simp [World.frozen?, hb']
  have HP' := Lib.hid (wr_put HG.out H1.out h2 hr' ha)
  obtain ⟨r, cap, rfl⟩ := hr'.slice
  clear hb' hr' ha
  go_wp2_with fail
  go_end0
  have HP2 := HP'.out
  simp only [List.length_append, Array.length_toList, ByteArray.size_data] at HP2
  exact ⟨rfl, HP2.1, HP.out.trans HP2.2⟩
end Go.Proofs.YtpnmhldaaaemeaaGreat.Snp
/- Chapter 24: what a writer writes: pairs, members, identifiers. -/
namespace Go.Proofs.YtpnmhldaaaemeaaGreat.Snp
open Go.RowKit Go.Proofs.YtpnmhldaaaemeaaGreat.Pin

def textB (s : ByteArray) : List UInt8 := leB s.size 4 ++ s.data.toList
def pairB (p : Pr) : List UInt8 := textB p.1 ++ textB p.2
def scB (m : Sc) : List UInt8 := textB m.1 ++ leB m.2 8
def idB (x : Nat × Nat) : List UInt8 := leB x.1 8 ++ leB x.2 8
theorem textB_len (s : ByteArray) : (textB s).length = 4 + s.size := by simp [textB, leB_len]
/-- the call writes the bytes m behind those that the writer holds -/
abbrev Writes (f : FuncId) (args : Array Value) (w : World) (B g : Nat) (l m : List UInt8) : Prop :=
  Calls Tryz.prog f args w fun e w' => e = .returned (.tuple #[]) ∧ Wr w' B g (l ++ m) ∧ Puts g w w'
theorem text_wr (s : ByteArray) (l : List UInt8) (B g : Nat) (w : World) (h : Wr w B g l) (hb : l.length + (textB s).length ≤ 140737488355328) : Writes 16 #[.pointer (some ⟨g, 0, none⟩), .string s] w B g l (textB s) := by
  rw [textB_len] at hb
  exact text_any s l B g w h (by omega) (by omega)
theorem pair_wr (p : Pr) (l : List UInt8) (B g : Nat) (w : World) (h : Wr w B g l) (hb : l.length + (pairB p).length ≤ 140737488355328) : Writes 46 #[.pointer (some ⟨g, 0, none⟩), .agg #[.string p.1, .string p.2]] w B g l (pairB p) := by
  obtain ⟨a, b⟩ := p
  have hb' : l.length + ((textB a).length + (textB b).length) ≤ 140737488355328 := by simpa [pairB] using hb
  have H := Lib.hid h
  have H1 := Lib.hid (text_wr a l B g (w.alloc (.cells #[.string a, .string b] 78)) (h.alloc _) (by omega))
  have H2 := Lib.hid (fun w' h' => text_wr b (l ++ textB a) B g w' h' (by rw [List.length_append]; omega))
  have HL := Lib.hid h.lt
  clear h hb hb'
  go_enter Tryz.func46, Tryz.ntmps46
  go_wp2_with fail
  refine H1.out.mono ?_
  rintro e w1 ⟨rfl, hw1, hp1⟩
  have hk := Puts.keep H.out hp1
  have hc1 : w1.cell? ⟨w.heap.size, 1, none⟩ = some (.string b) := by rw [Lib.cell_of_heap hk]; rfl
  have HP1 : Hid (Puts g w w1) := Lib.hid ((Puts.alloc g w _ HL.out).trans hp1)
  have HW1 := Lib.hid hw1
  clear hk hw1 hp1
  go_wp2_with fail
  refine (H2.out w1 HW1.out).mono ?_
  rintro e w2 ⟨rfl, hw2, hp2⟩
  have HW2 := Lib.hid hw2
  have HP2 : Hid (Puts g w w2) := Lib.hid (HP1.out.trans hp2)
  clear hw2 hp2
  go_wp2_with fail
  go_end0
  exact ⟨rfl, by rw [pairB, ← List.append_assoc]; exact HW2.out, HP2.out⟩
set_option maxRecDepth 100000 in
theorem scored_wr (p : Sc) (l : List UInt8) (B g : Nat) (w : World) (h : Wr w B g l) (hp : p.2 < 18446744073709551616) (hb : l.length + (scB p).length ≤ 140737488355328) : Writes 57 #[.pointer (some ⟨g, 0, none⟩), .agg #[.string p.1, .float .f64 p.2]] w B g l (scB p) := by
  obtain ⟨a, b⟩ := p
  have hb' : l.length + ((textB a).length + 8) ≤ 140737488355328 := by simpa [scB, leB_len] using hb
  have H := Lib.hid h
  have H1 := Lib.hid (text_wr a l B g (w.alloc (.cells #[.string a, .float .f64 b] 88)) (h.alloc _) (by omega))
  have H2 := Lib.hid (fun w' h' => number_any b 8 (l ++ textB a) B g w' h' hp (by omega) (by rw [List.length_append]; omega))
  have HL := Lib.hid h.lt
  have hcb := call_bits b
  clear h hb hb' hp
  go_enter Tryz.func57, Tryz.ntmps57
  go_wp2_with fail
  refine H1.out.mono ?_
  rintro e w1 ⟨rfl, hw1, hp1⟩
  have hk := Puts.keep H.out hp1
  have hc1 : w1.cell? ⟨w.heap.size, 1, none⟩ = some (.float .f64 b) := by rw [Lib.cell_of_heap hk]; rfl
  have HP1 : Hid (Puts g w w1) := Lib.hid ((Puts.alloc g w _ HL.out).trans hp1)
  have HW1 := Lib.hid hw1
  clear hk hw1 hp1
  go_wp2_with fail
  refine (H2.out w1 HW1.out).mono ?_
  rintro e w2 ⟨rfl, hw2, hp2⟩
  have HW2 := Lib.hid hw2
  have HP2 : Hid (Puts g w w2) := Lib.hid (HP1.out.trans hp2)
  clear hw2 hp2
  go_wp2_with fail
  go_end0
  exact ⟨rfl, by rw [scB, ← List.append_assoc]; exact HW2.out, HP2.out⟩
set_option maxRecDepth 100000 in
theorem id_wr (x : Nat × Nat) (l : List UInt8) (B g : Nat) (w : World) (h : Wr w B g l) (hx : x.1 < 18446744073709551616 ∧ x.2 < 18446744073709551616) (hb : l.length + 16 ≤ 140737488355328) : Writes 63 #[.pointer (some ⟨g, 0, none⟩), idV x] w B g l (idB x) := by
  obtain ⟨a, b⟩ := x
  have H := Lib.hid h
  have H1 := Lib.hid (number_any a 8 l B g (w.alloc (.cells #[.int .u64 (a : Int), .int .u64 (b : Int)] 40)) (h.alloc _) hx.1 (by omega) (by omega))
  have H2 := Lib.hid (fun w' h' => number_any b 8 (l ++ leB a 8) B g w' h' hx.2 (by omega) (by rw [List.length_append, leB_len]; omega))
  have HL := Lib.hid h.lt
  clear h hb hx
  go_enter Tryz.func63, Tryz.ntmps63
  go_wp2_with fail
  refine H1.out.mono ?_
  rintro e w1 ⟨rfl, hw1, hp1⟩
  have hk := Puts.keep H.out hp1
  have hc1 : w1.cell? ⟨w.heap.size, 1, none⟩ = some (.int .u64 (b : Int)) := by rw [Lib.cell_of_heap hk]; rfl
  have HP1 : Hid (Puts g w w1) := Lib.hid ((Puts.alloc g w _ HL.out).trans hp1)
  have HW1 := Lib.hid hw1
  clear hk hw1 hp1
  go_wp2_with fail
  refine (H2.out w1 HW1.out).mono ?_
  rintro e w2 ⟨rfl, hw2, hp2⟩
  have HW2 := Lib.hid hw2
  have HP2 : Hid (Puts g w w2) := Lib.hid (HP1.out.trans hp2)
  clear hw2 hp2
  go_wp2_with fail
  go_end0
  exact ⟨rfl, by rw [idB, ← List.append_assoc]; exact HW2.out, HP2.out⟩
end Go.Proofs.YtpnmhldaaaemeaaGreat.Snp
/- Chapter 24: the document's bytes (stillroomref24): numbers, texts, lists, behind a row of bytes. -/
namespace Go.Proofs.YtpnmhldaaaemeaaGreat.Snp
open Go.RowKit Go.Proofs.YtpnmhldaaaemeaaGreat.Pin
/-- the call hands back the bytes l with m behind them -/
abbrev Adds (f : FuncId) (args : Array Value) (w : World) (B : Nat) (v : Value) (l m : List UInt8) : Prop := Calls Tryz.prog f args w fun e w' => ∃ v', e = .returned v' ∧ Row w' B v' (l ++ m) ∧ Ap w v w' v'
theorem wrap_nat {q : Nat} (h : q < 18446744073709551616) : Value.int .u64 (IntKind.u64.wrap (q : Int)) = .int .u64 (q : Int) := by rw [IntKind.wrap_u64]; congr 1; omega
set_option maxHeartbeats 1000000 in
set_option maxRecDepth 100000 in
theorem ref_low (n k : Nat) (v : Value) (l : List UInt8) (B : Nat) (w : World) (h : Row w B v l) (hB : B ≤ w.heap.size) (hn : n < 18446744073709551616) (hk : k ≤ 8) (hb : l.length + k ≤ 140737488355328) :
    Adds 72 #[v, .int .u64 (n : Int), .int .i64 (k : Int)] w B v l (leB n k) := by
  have HB := Lib.hid h
  have HN := Lib.hid hn
  have HL := Lib.hid hb
  unfold Adds
  clear h hn hb
  go_enter Tryz.func72, Tryz.ntmps72
  go_wp2_with fail
  go_loopw [0, 1, 7] (fun b m i wr => ∃ j : Nat, j ≤ k ∧ i = .int .i64 j ∧ m = .int .u64 ((n / 256 ^ j : Nat) : Int) ∧ Row wr B b (l ++ leB n j) ∧ Ap w v wr b) (fun _ _ i _ => k - (intOf i).toNat)
  case atStart => exact ⟨0, Nat.zero_le _, rfl, by simp, by rw [leB_zero, List.append_nil]; exact HB.out, Ap.refl _ _⟩
  case round =>
    obtain ⟨j, hj, rfl, rfl, hr, ha⟩ := hrel
    have HR := Lib.hid hr
    have HA := Lib.hid ha
    clear hr ha
    by_cases hlt : j < k
    · obtain ⟨m, hm⟩ : ∃ m, m = n / 256 ^ j := ⟨_, rfl⟩
      have HM' : Hid (m < 18446744073709551616) := Lib.hid (by rw [hm]; exact Nat.lt_of_le_of_lt (Nat.div_le_self _ _) HN.out)
      have HM := Lib.hid hm
      rw [← hm]
      clear hm
      have HBW : Hid (∀ o : Obj, B ≤ (wr.alloc o).heap.size) := Lib.hid (fun o => Nat.le_trans (Nat.le_trans hB HA.out.size) (by simp))
      have HLE : Hid ((l ++ leB n j).length + [UInt8.ofNat m].length ≤ 140737488355328) := Lib.hid (by have := HL.out; simp [leB_len]; omega)
      go_wp2_with (at_builtin; (refine wpList_row_append rfl _ _ rfl rfl (HR.out.alloc _) (HBW.out _) ⟨wr.heap.size, 0, none⟩ 1 1 [UInt8.ofNat m] rfl rfl Nat.one_pos ?c1 HLE.out ?_))
      case c1 => exact one_new (by simp)
      intro v' w1 hr1 ha1
      have HR1 := Lib.hid hr1
      have HA1 := Lib.hid ha1
      clear hr1 ha1
      go_wp2_with fail
      go_roundw
      case rel => exact ⟨j + 1, hlt, by go_num, by rw [HM.out, div_step]; exact wrap_nat (Nat.lt_of_le_of_lt (Nat.div_le_self _ _) HN.out), by rw [leB_succ, ← HM.out]; simpa only [List.append_assoc] using HR1.out, (HA.out.trans (Ap.alloc _ _ _)).trans HA1.out⟩
      case measure => simp [intOf]; omega
    · obtain rfl : j = k := by omega
      go_wp2_with fail
      go_ret
      exact ⟨_, rfl, HR.out, HA.out⟩
theorem row_append0 {w : World} {B : Nat} {v : Value} {l : List UInt8} (h : Row w B v l) (a : Addr) (c : Nat) (ty : TypeId) : (Builtin.append_ #[55, 55] ty #[v, .slice (some a) 0 c]).run Tryz.prog w = .ok v w := by
  obtain ⟨i0, hi, hz0, hz1, hz2⟩ := info_parts info_byte
  obtain ⟨g, cap, cur, fz, rfl, _, _, hl, _⟩ := h
  simp [Builtin.append_, run_underlying Tryz.underlying55, sizeOf, typeInfo, hi, Builtin.lenOf, Builtin.firstCells, hl, loadCells, loadCellsFrom, storeCells]
theorem row_append_all {w : World} {B : Nat} {v : Value} {l : List UInt8} (h : Row w B v l) (hB : B ≤ w.heap.size) (a : Addr) (c : Nat) (m : List UInt8) (hnews : ∀ j u, (bcs m)[j]? = some u → w.cell? (a.add j) = some u) (hb : l.length + m.length ≤ 140737488355328) (ty : TypeId) :
    ∃ v' w', (Builtin.append_ #[55, 55] ty #[v, .slice (some a) m.length c]).run Tryz.prog w = .ok v' w' ∧ Row w' B v' (l ++ m) ∧ Ap w v w' v' := by
  by_cases hm : 0 < m.length
  · exact row_append h hB a c m hm hnews hb ty
  · obtain rfl : m = [] := List.eq_nil_of_length_eq_zero (by omega)
    exact ⟨v, w, row_append0 h a c ty, by rw [List.append_nil]; exact h, Ap.refl _ _⟩
theorem wpList_row_all {ops : Array Oper} {rest : List Oper} {o : Oper} {a : Act} {Q : Exit → Act → World → Prop} {w : World} (hgd : o.guard = none) (sl x : Operand)
    (ho : o.op = .call { callee := .builtin .append, args := #[sl, x], argTypes := #[55, 55] }) {B : Nat} {v : Value} {l : List UInt8} (hs : a.eval sl = v) (h : Row w B v l) (hB : B ≤ w.heap.size) (ad : Addr) (n c : Nat) (m : List UInt8) (hx : a.eval x = .slice (some ad) n c) (hn : n = m.length)
    (hnews : ∀ j u, (bcs m)[j]? = some u → w.cell? (ad.add j) = some u) (hb : l.length + m.length ≤ 140737488355328)
    (hK : ∀ v' w', Row w' B v' (l ++ m) → Ap w v w' v' → wpList Tryz.prog ops Q rest (a.put o.dst v') w') : wpList Tryz.prog ops Q (o :: rest) a w := by
  subst hn
  refine wpList_plain hgd fun K hK' => ?_
  obtain ⟨v', w', hr, h2, h3⟩ := row_append_all h hB ad c m hnews hb o.type
  unfold Oper.wp execOp
  simp only [ho, resolve, invoke, builtin, Sem.run_bind, Sem.run_pure, Result.andThen_ok, List.map_toArray, List.map_cons, List.map_nil, hs, hx, hr]
  exact hK' _ _ (hK v' w' h2 h3)
theorem Ap.of_below {w w' : World} (v : Value) (h : Below w.heap.size w w') : Ap w v w' v := ⟨h.os, h.tape, h.output, h.size, fun k hk _ => h.block k hk, .inl rfl⟩
/-- the world behind '[]byte(s)' -/
theorem bytes_new (w : World) (s : ByteArray) : ∃ W C, (convert 9 55 (.string s)).run Tryz.prog w = .ok (.slice (some ⟨w.heap.size, 0, none⟩) s.size C) W ∧ Below w.heap.size w W ∧ ∀ j u, (bcs s.data.toList)[j]? = some u → W.cell? ((⟨w.heap.size, 0, none⟩ : Addr).add j) = some u := by
  refine ⟨_, _, Lib.run_convert_string_bytes w 9 55 5 s Tryz.underlying9 Tryz.underlying55 Tryz.underlying5, ⟨rfl, rfl, rfl, by rw [Lib.bytesWorld_size]; omega, fun k hk => Lib.bytesWorld_at_old w _ s k hk⟩, fun j u hu => ?_⟩
  have hadd : (⟨w.heap.size, 0, none⟩ : Addr).add j = ⟨w.heap.size, j, none⟩ := by unfold Addr.add; split <;> simp_all
  have hj : j < s.data.toList.length := by have := (List.getElem?_eq_some_iff.1 hu).1; rwa [bcs_len] at this
  rw [hadd, Lib.bytesWorld_cell w _ s j (by simpa using hj)]
  have hu2 : some (Value.int .u8 ((s.data.toList[j]).toNat : Int)) = some u := by rw [← hu]; simp only [bcs, List.getElem?_map, List.getElem?_eq_getElem hj, Option.map_some]
  rw [← hu2]
  simp at hj
  simp [List.getD, hj]
set_option maxHeartbeats 1000000 in
set_option maxRecDepth 100000 in
theorem ref_text (s : ByteArray) (v : Value) (l : List UInt8) (B : Nat) (w : World) (h : Row w B v l) (hB : B ≤ w.heap.size) (hb : l.length + (textB s).length ≤ 140737488355328) :
    Adds 73 #[v, .string s] w B v l (textB s) := by
  rw [textB_len] at hb
  have HN := Lib.hid (ref_low s.size 4 v l B w h hB (by omega) (by decide) (by omega))
  have HL := Lib.hid hb
  have HBB := Lib.hid hB
  have hw : IntKind.u64.wrap (s.size : Int) = (s.size : Int) := by rw [IntKind.wrap_u64]; omega
  unfold Adds
  clear h hb hB
  go_enter Tryz.func73, Tryz.ntmps73
  go_wp2_with fail
  refine HN.out.mono ?_
  rintro e w1 ⟨v1, rfl, hr1, ha1⟩
  obtain ⟨W, C, hcv, hbl, hcl⟩ := bytes_new w1 s
  have HR2 : Hid (Row W B v1 (l ++ leB s.size 4)) := Lib.hid (hr1.kept fun g hg => hbl.block g (hr1.lt g hg).2)
  have HA2 : Hid (Ap w v W v1) := Lib.hid (ha1.trans (Ap.of_below v1 hbl))
  have HCL := Lib.hid hcl
  have HB2 : Hid (B ≤ W.heap.size) := Lib.hid (by have := HBB.out; have := ha1.size; have := hbl.size; omega)
  have HLE : Hid ((l ++ leB s.size 4).length + s.data.toList.length ≤ 140737488355328) := Lib.hid (by have := HL.out; simp [leB_len]; omega)
  obtain ⟨g1, c1, hv1⟩ := HR2.out.slice
  have HV1 := Lib.hid hv1
  clear hr1 ha1 hbl hcl hv1
  go_wp2_with (at_builtin; (refine wpList_row_all rfl _ _ rfl rfl HR2.out HB2.out ⟨w1.heap.size, 0, none⟩ s.size C s.data.toList rfl (by simp) HCL.out HLE.out ?_))
  intro v' w2 hr2 ha2
  have HR3 := Lib.hid hr2
  have HA3 := Lib.hid (HA2.out.trans ha2)
  clear hr2 ha2
  go_wp2_with fail
  go_ret
  exact ⟨_, rfl, by rw [textB]; exact HR3.out, HA3.out⟩
end Go.Proofs.YtpnmhldaaaemeaaGreat.Snp
