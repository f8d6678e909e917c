/- Chapter 07: Scan's closure walked: the keys of one place. -/
import Derived.Test.YtnoalklbgncajaaDoorNx07
import Derived.Maps.RangeWalk
namespace Go.Proofs.YtnoalklbgncajaaDoor.Dct
open Go Go.MapKept Go.RowKit Go.Proofs.YtnoalklbgncajaaDoor.Pin Go.Proofs.YtnoalklbgncajaaDoor.Mps Go.Proofs.YtnoalklbgncajaaDoor.Bok Go.Proofs.YtnoalklbgncajaaDoor.Uw Go.Proofs.YtnoalklbgncajaaDoor.Sip
attribute [local go_sem high] eql_tab
attribute [local go_sem high] run_store_U cells_U eqGuard_U asIntOf_U
attribute [local go_sem high] eql_map neq_map
theorem sinfo : (Tryd.prog.info? 9).map (fun i => (i.zero, i.size, i.bytes)) = some (some (.string ⟨#[]⟩), 1, 16) := by kernel_rfl
/-- the two boxes of a scan: the cursor, and the keys in a row of their own -/
structure Bx (w : World) (B : Nat) (no : Nat → Prop) (cb kb : Nat) (v : BitVec 64) (L : List ByteArray) : Prop where
  cur : w.heap[cb]? = some (.cells #[U v] 22 (0, 0))
  box : ∃ kv, w.heap[kb]? = some (.cells #[kv] 33 (0, 0)) ∧ w.ownsRow B 9 1 kv L.length (L.map Value.string) ∧ ∀ r, kv.ownBlock = some r → r ≠ cb ∧ r ≠ kb ∧ ¬ no r
  ne : cb ≠ kb
  ncb : B ≤ cb
  nkb : B ≤ kb
theorem Bx.same {w w' : World} {B cb kb : Nat} {no : Nat → Prop} {v : BitVec 64} {L : List ByteArray} (h : Bx w B no cb kb v L) (hf : Frm no w w') (h1 : ¬ no cb) (h2 : ¬ no kb) : Bx w' B no cb kb v L := by
  obtain ⟨kv, e1, e2, e3⟩ := h.box
  refine ⟨(hf.block cb (Array.getElem?_eq_some_iff.1 h.cur).1 h1).trans h.cur, ⟨kv, (hf.block kb (Array.getElem?_eq_some_iff.1 e1).1 h2).trans e1, hf.row e2 (fun r hr => (e3 r hr).2.2), e3⟩, h.ne, h.ncb, h.nkb⟩
theorem Bx.more {w : World} {B cb kb : Nat} {no no' : Nat → Prop} {v : BitVec 64} {L : List ByteArray} (h : Bx w B no cb kb v L) (hn : ∀ r, r < w.heap.size → no' r → no r) : Bx w B no' cb kb v L := by
  obtain ⟨kv, e1, e2, e3⟩ := h.box
  exact ⟨h.cur, ⟨kv, e1, e2, fun r hr => ⟨(e3 r hr).1, (e3 r hr).2.1, fun k => (e3 r hr).2.2 (hn r (e2.lt r hr).2 k)⟩⟩, h.ne, h.ncb, h.nkb⟩
theorem Bx.lt {w : World} {B cb kb : Nat} {no : Nat → Prop} {v : BitVec 64} {L : List ByteArray} (h : Bx w B no cb kb v L) : cb < w.heap.size ∧ kb < w.heap.size := by
  obtain ⟨kv, e1, e2, e3⟩ := h.box
  exact ⟨(Array.getElem?_eq_some_iff.1 h.cur).1, (Array.getElem?_eq_some_iff.1 e1).1⟩
/-- one key appended -/
theorem Bx.push {w w5 : World} {B cb kb : Nat} {no : Nat → Prop} {v : BitVec 64} {L : List ByteArray} {x : ByteArray} {kv v5 : Value} {o : Obj} (h : Bx w B no cb kb v L) (hk : w.heap[kb]? = some (.cells #[kv] 33 (0, 0))) (hno : ∀ r, no r → r < w.heap.size)
    (hown : w5.ownsRow B 9 1 v5 (L.length + 1) (L.map Value.string ++ [.string x])) (hgr : (v5.ownBlock = kv.ownBlock ∧ (w.alloc o).grownBy w5 kv.ownBlock) ∨ (∃ r, v5.ownBlock = some r ∧ (w.alloc o).heap.size ≤ r) ∧ (w.alloc o).grownBy w5 none) :
    Bx (w5.setCell ⟨kb, 0, none⟩ v5) B no cb kb v (L ++ [x]) ∧ Below B w (w5.setCell ⟨kb, 0, none⟩ v5) ∧ Frm (fun b => b = kb ∨ kv.ownBlock = some b) w (w5.setCell ⟨kb, 0, none⟩ v5) := by
  obtain ⟨kv', e1, e2, e3⟩ := h.box
  rw [hk] at e1
  have e0 : kv = kv' := by
    injection e1 with e1
    injection e1 with e1 _
    injection e1 with e1
    injection e1 with e1 _
  subst e0
  obtain ⟨l1, l2⟩ := h.lt
  have hsz : w.heap.size ≤ (w.alloc o).heap.size := by simp
  have hF : Frm (fun b => b = kb ∨ kv.ownBlock = some b) w w5 := by
    have h0 : Frm (fun b => b = kb ∨ kv.ownBlock = some b) w (w.alloc o) := (Frm.refl w).alloc o
    rcases hgr with ⟨_, k⟩ | ⟨_, k⟩
    · exact h0.grown k (fun b hb _ => .inr hb)
    · exact h0.grown k (fun b hb _ => by cases hb)
  have hF2 : Frm (fun b => b = kb ∨ kv.ownBlock = some b) w (w5.setCell ⟨kb, 0, none⟩ v5) := hF.set _ _ (fun _ => .inl rfl)
  have hkb5 : w5.heap[kb]? = w.heap[kb]? := by
    have hk2 : (w.alloc o).heap[kb]? = w.heap[kb]? := heap_alloc_old w o l2
    rcases hgr with ⟨_, k⟩ | ⟨_, k⟩
    · exact (k.block kb (Nat.lt_of_lt_of_le l2 hsz) (fun e => (e3 kb e.symm).2.1 rfl)).trans hk2
    · exact (k.block kb (Nat.lt_of_lt_of_le l2 hsz) (fun e => by cases e)).trans hk2
  have hv5 : ∀ r, v5.ownBlock = some r → r ≠ cb ∧ r ≠ kb ∧ ¬ no r := fun r hr => by
    rcases hgr with ⟨k, _⟩ | ⟨⟨r', k1, k2⟩, _⟩
    · rw [k] at hr
      exact e3 r hr
    · rw [hr] at k1
      injection k1 with k1
      subst k1
      refine ⟨by omega, by omega, fun k => ?_⟩
      have := hno r k
      omega
  refine ⟨⟨(hF2.block cb l1 (fun e => e.elim (fun e => h.ne e) (fun e => (e3 cb e).1 rfl))).trans h.cur, ⟨v5, ?_, ?_, hv5⟩, h.ne, h.ncb, h.nkb⟩, ⟨hF2.os, hF2.tape, hF2.output, hF2.size, fun k hk2 => ?_⟩, hF2⟩
  · rw [heap_setCell_same w5 kb 0 _ _ v5 (hkb5.trans hk)]
    rfl
  · rw [List.length_append, List.map_append]
    exact (Frm.set (own := fun b => b = kb) (Frm.refl w5) ⟨kb, 0, none⟩ v5 (fun _ => rfl)).row hown (fun r hr e => (hv5 r hr).2.1 e)
  · have hk3 : k < w.heap.size := Nat.lt_of_lt_of_le hk2 (Nat.le_trans h.nkb (Nat.le_of_lt l2))
    refine hF2.block k hk3 (fun e => ?_)
    rcases e with e | e
    · have := h.nkb; omega
    · have := (e2.lt k e).1; omega
/-- the place of a cursor in a table of so many -/
def plcV (v : BitVec 64) (n : Nat) : Nat := (v &&& BitVec.ofNat 64 (n - 1)).toNat
theorem plcV_lt (v : BitVec 64) {n : Nat} (h : 0 < n) (h2 : n ≤ 1099511627776) : plcV v n < n := by
  unfold plcV
  rw [BitVec.toNat_and]
  have h1 : (BitVec.ofNat 64 (n - 1)).toNat = n - 1 := by rw [BitVec.toNat_ofNat, Nat.mod_eq_of_lt (by omega)]
  have h3 := Nat.and_le_right (n := v.toNat) (m := (BitVec.ofNat 64 (n - 1)).toNat)
  omega
theorem MapO.below {w w' : World} {mo : Option Nat} {l : KV} (h : MapO w mo l) (hb : Below w.heap.size w w') : MapO w' mo l := by
  cases mo with
  | none => exact h
  | some M => exact MapAt.same h (hb.block M (MapAt.lt (w := w) h))
def plM : Pl → Option Nat
  | none => none
  | some x => some x.1
theorem plV_eq (z : Pl) : plV z = .map (plM z) := by cases z <;> rfl
theorem TabAt.mapO {w : World} {a i : Nat} {ps : List Pl} {z : Pl} (h : TabAt w a ps) (hz : ps[i]? = some z) : MapO w (plM z) (mapE (plE z)) := by
  cases z with
  | none => rfl
  | some y => exact h.map _ (List.mem_of_getElem? hz) y.1 y.2 rfl
set_option maxHeartbeats 2000000 in
set_option maxRecDepth 100000 in
theorem tell_any {w : World} {B cb kb a : Nat} {v : BitVec 64} {L : List ByteArray} {ps : List Pl} {z : Pl} (hX : Bx w B (fun _ => False) cb kb v L) (hT : TabAt w a ps) (hTB : a < B ∧ ∀ b ∈ blks ps, b < B) (hN : 0 < ps.length) (hN2 : ps.length ≤ 1099511627776) (hz : ps[plcV v ps.length]? = some z) (hlen : L.length + (plE z).length ≤ 1099511627776) :
    Calls Tryd.prog 23 #[.slice (some ⟨a, 0, none⟩) ps.length ps.length, .pointer (some ⟨cb, 0, none⟩), .pointer (some ⟨kb, 0, none⟩)] w fun e w' => e = .returned (.tuple #[]) ∧ ∃ L', Bx w' B (fun _ => False) cb kb v (L ++ L') ∧ L'.Perm ((plE z).map (·.1)) ∧ Below B w w' := by
  obtain ⟨i0, hi, hz0, hz1, hz2⟩ := info_parts sinfo
  have HI := Lib.hid hi
  have HZ0 := Lib.hid hz0
  have HZ1 := Lib.hid hz1
  have HZ2 := Lib.hid hz2
  clear hi hz0 hz1 hz2
  obtain ⟨N, hN'⟩ : ∃ N, N = ps.length := ⟨_, rfl⟩
  rw [← hN'] at hN hN2 hz ⊢
  obtain ⟨m, rfl⟩ : ∃ m, N = m + 1 := ⟨N - 1, by omega⟩
  have e1 : ((m + 1 : Nat) : Int) - 1 = (m : Int) := by omega
  obtain ⟨i, hiv⟩ : ∃ i, i = (v &&& BitVec.ofNat 64 m).toNat := ⟨_, rfl⟩
  have HA : ∀ (w : World) (t : TypeId), (binOp .and t (U v) (.int .u64 (m : Int))).run Tryd.prog w = .ok (.int .u64 (i : Int)) w := fun w t => by rw [hiv]; exact run_andM Tryd.prog t w v m (by omega)
  have HPI : Hid (plcV v (m + 1) = i) := Lib.hid (by rw [hiv]; rfl)
  rw [HPI.out] at hz
  have hil : i < m + 1 := by rw [hN']; exact (List.getElem?_eq_some_iff.1 hz).1
  have hilI : (i : Int) < ((m + 1 : Nat) : Int) := by omega
  have c1 : w.cell? ⟨cb, 0, none⟩ = some (U v) := by rw [Lib.cell_of_heap hX.cur]; rfl
  have c2 : w.cell? ⟨a, i, none⟩ = some (.map (plM z)) := by
    rw [Lib.cell_of_heap hT.row]
    simp [hz, plV_eq]
  have HMO := Lib.hid (hT.mapO hz)
  have HX := Lib.hid hX
  have HMB : Hid (∀ M, plM z = some M → M < B) := Lib.hid (fun M e => by
    cases z with
    | none => cases e
    | some y =>
      have e : some y.1 = some M := e
      injection e with e
      rw [← e]
      exact hTB.2 y.1 (blks_mem (l := y.2) (List.mem_of_getElem? hz)))
  have HLEN := Lib.hid hlen
  have HBB : Hid (B ≤ w.heap.size) := Lib.hid (by have := hX.lt.1; have := hX.ncb; omega)
  clear hX hT hTB hz hN hlen hN' hiv
  go_enter Tryd.func23, Tryd.ntmps23
  go_wp2_with (at_range; refine wpList_range_s _ rfl _ _ _ _ rfl Tryd.underlying52 (plM z) (mapE (plE z)) rfl HMO.out ?_)
  intro w1 hit o hw1
  obtain ⟨r, hr⟩ : ∃ r, r = w.heap.size := ⟨_, rfl⟩
  rw [← hr] at hit ⊢
  have HCB : Hid (cb < r ∧ kb < r) := Lib.hid (by rw [hr]; exact HX.out.lt)
  have HRB : Hid (B ≤ r) := Lib.hid (by rw [hr]; exact HBB.out)
  have HX1 : Hid (Bx w1 B (fun b => b = r) cb kb v L) := Lib.hid (by
    have h1 := HX.out.more (no' := fun b => b = r) (fun q hq e => by omega)
    refine h1.same ?_ (by have := HCB.out.1; omega) (by have := HCB.out.2; omega)
    rw [hw1]
    exact (Frm.refl w).alloc o)
  have HB1 : Hid (Below B w w1) := Lib.hid (by rw [hw1]; exact (Below.refl B w).alloc HBB.out o)
  have HIT := Lib.hid hit
  clear hit hw1 hr c1 c2 HX HMO HA hil hilI HPI e1
  go_wp2_with fail
  go_loopg [4] (mapE (plE z)).length (fun g _ wq => ∃ done rest, g = rest.length ∧ Hid (Bx wq B (fun b => b = r) cb kb v (L ++ done) ∧ IterAt wq r (plM z) (mapE (plE z)) rest ∧ (done ++ rest.map (·.1)).Perm ((plE z).map (·.1)) ∧ Below B w wq))
  case atStart => exact ⟨[], _, rfl, Lib.hid ⟨by rw [List.append_nil]; exact HX1.out, HIT.out, by unfold mapE; rw [List.map_map]; exact List.Perm.refl _, HB1.out⟩⟩
  case round =>
    obtain ⟨done, rest, hgk, HQ⟩ := hrel
    have HGK := Lib.hid hgk
    clear hgk HX1 HIT HB1
    iterate 2 (first | go_values | go_skip | go_guarded | go_step)
    refine wpList_next_s _ rfl _ rfl r (plM z) (mapE (plE z)) rest rfl HQ.out.2.1 ?_ ?_
    · intro hdone
      have HDN := Lib.hid hdone
      clear hdone
      go_wp2_with fail
      first | refine bodyPost_end (results_none rfl _ _ _) rfl ?_ | refine bodyPost_ret (results_none rfl _ _ _) rfl ?_
      refine ⟨rfl, done, HQ.out.1.more (fun _ _ e => e.elim), ?_, HQ.out.2.2.2⟩
      have := HQ.out.2.2.1
      rw [HDN.out] at this
      simpa using this
    · rintro ⟨k, vv⟩ rest' wn hp hmem hit hf hen
      have hcb := HCB.out
      have HXN : Hid (Bx wn B (fun b => b = r) cb kb v (L ++ done)) := Lib.hid (HQ.out.1.same hf (by omega) (by omega))
      have HBN : Hid (Below B w wn) := Lib.hid (HQ.out.2.2.2.trans ⟨hf.os, hf.tape, hf.output, hf.size, fun q hq => hf.block q (Nat.lt_of_lt_of_le hq (Nat.le_trans HBB.out HQ.out.2.2.2.size)) (by have := HRB.out; omega)⟩)
      have HPE : Hid ((done ++ [k] ++ rest'.map (·.1)).Perm ((plE z).map (·.1)) ∧ rest'.length < gk ∧ done.length < (plE z).length) := Lib.hid (by
        have h1 := HQ.out.2.2.1
        have h2 := hp.map (·.1)
        have h3 : (done ++ [k] ++ rest'.map (·.1)).Perm ((plE z).map (·.1)) := by
          refine List.Perm.trans ?_ h1
          rw [List.append_assoc]
          exact (h2.symm).append_left done
        refine ⟨h3, by have := hp.length_eq; rw [HGK.out]; simp at this; omega, ?_⟩
        have h4 := h3.length_eq
        simp at h4
        omega)
      have HIT := Lib.hid hit
      obtain ⟨kv, b1, b2, b3⟩ := HXN.out.box
      obtain ⟨n, hn⟩ : ∃ n, n = (L ++ done).length := ⟨_, rfl⟩
      have HN := Lib.hid hn
      rw [← hn] at b2
      have HBX := Lib.hid b1
      have HOW := Lib.hid b2
      have HNO := Lib.hid b3
      obtain ⟨A1, cc1, hkv, _⟩ := row_slice b2
      subst hkv
      have c3 : wn.cell? ⟨kb, 0, none⟩ = some (.slice A1 n cc1) := by rw [Lib.cell_of_heap b1]; rfl
      have HAL := Lib.hid (HOW.out.alloc (.cells #[.string k] 9))
      have HLL : Hid (n ≤ 1099511627776) := Lib.hid (by rw [hn]; have h1 := HPE.out.2.2; have h2 := HLEN.out; rw [List.length_append]; omega)
      clear hp hmem hit hf b1 b2 b3 hcb hn
      go_wp2_with (at_builtin; refine wpList_append2 _ rfl _ _ 33 rfl B 9 i0 (.string ⟨#[]⟩) 1 16 Tryd.underlying33 HI.out HZ0.out HZ1.out HZ2.out rfl (by decide) _ _ _ rfl HAL.out ⟨wn.heap.size, 0, none⟩ 1 1 [.string k] rfl rfl Nat.one_pos ?y1 ?y2 ?y3 ?y4 ?y5 ?_)
      case y2 => simp [Value.oneCell']
      case y3 => have := HLL.out; unfold maxLen; omega
      case y4 => have := HLL.out; omega
      case y5 => have h1 := HBN.out.size; have h2 := HBB.out; simp; omega
      intro v5 w5 hown hgr
      have HPU := Lib.hid (HXN.out.push (o := .cells #[.string k] 9) HBX.out (fun q hq => by rw [hq]; exact HIT.out.lt) (by rw [← HN.out, List.map_append, List.append_assoc]; exact hown) (by simpa using hgr))
      obtain ⟨A5, cc5, hv5, _⟩ := row_slice hown
      subst hv5
      have hkb : w5.cell? ⟨kb, 0, none⟩ = some (.slice A1 n cc1) := by
        rw [← c3]
        have hk2 : (wn.alloc (.cells #[.string k] 9)).heap[kb]? = wn.heap[kb]? := heap_alloc_old _ _ HXN.out.lt.2
        have hk3 : kb < (wn.alloc (.cells #[.string k] 9)).heap.size := by have := HXN.out.lt.2; simp; omega
        refine World.cell?_of_block (Eq.trans ?_ hk2)
        rcases hgr with ⟨_, q⟩ | ⟨_, q⟩
        · exact q.block kb hk3 (fun e => (HNO.out kb e.symm).2.1 rfl)
        · exact q.block kb hk3 (fun e => by cases e)
      have hfk : w5.frozen? ⟨kb, 0, none⟩ = false := by
        have hk2 : (wn.alloc (.cells #[.string k] 9)).heap[kb]? = wn.heap[kb]? := heap_alloc_old _ _ HXN.out.lt.2
        have hk3 : kb < (wn.alloc (.cells #[.string k] 9)).heap.size := by have := HXN.out.lt.2; simp; omega
        refine Lib.frozen_of_heap (Eq.trans ?_ HBX.out) _
        refine Eq.trans ?_ hk2
        rcases hgr with ⟨_, q⟩ | ⟨_, q⟩
        · exact q.block kb hk3 (fun e => (HNO.out kb e.symm).2.1 rfl)
        · exact q.block kb hk3 (fun e => by cases e)
      clear hown hgr
      go_wp2_with fail
      go_roundg rest'.length
      case measure => exact HPE.out.2.1
      case rel =>
        refine ⟨done ++ [k], rest', rfl, Lib.hid ⟨by rw [← List.append_assoc]; exact HPU.out.1, HIT.out.same (HPU.out.2.2.block r HIT.out.lt ?_) (fun M hM => HPU.out.2.2.block M ?_ ?_), HPE.out.1, HBN.out.trans HPU.out.2.1⟩⟩
        · rintro (e | e)
          · have := HCB.out.2; omega
          · exact (HNO.out r e).2.2 rfl
        · have h1 := HMB.out M hM; have h2 := HBN.out.size; have h3 := HBB.out; omega
        · rintro (e | e)
          · have h1 := HMB.out M hM; have h2 := HXN.out.nkb; omega
          · have h1 := HMB.out M hM; have h2 := (HOW.out.lt M e).1; omega
end Go.Proofs.YtnoalklbgncajaaDoor.Dct
