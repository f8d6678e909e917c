/- shorten: a file to its first so many bytes. -/
import Derived.Test.YtjjcicfilbfbjaaNew04
namespace Go.Proofs.Ytjjcicfilbfbjaa.Dsk
open Go.RowKit Go.Proofs.Ytjjcicfilbfbjaa.Pin Go.Proofs.Ytjjcicfilbfbjaa.Gon Go.Proofs.Ytjjcicfilbfbjaa.Mps

/-- the first k bytes -/
def cutB (b : ByteArray) (k : Nat) : ByteArray := ⟨(b.data.toList.take k).toArray⟩
theorem cutB_size (b : ByteArray) (k : Nat) (h : k ≤ b.size) : (cutB b k).size = k := by
  show (b.data.toList.take k).toArray.size = k
  have : b.data.toList.length = b.size := by rw [Array.length_toList]; rfl
  simp
  have h2 : b.data.size = b.size := rfl
  omega
theorem cutB_cells (b : ByteArray) (k : Nat) : Lib.strCells (cutB b k) = (Lib.strCells b).take k := by
  unfold Lib.strCells cutB
  rw [List.map_take]
theorem ownsRow_take {w : World} {p : Option Addr} {n c k : Nat} {xs : List Value} (h : w.ownsRow 0 5 1 (.slice p n c) n xs) (hk : k ≤ n) : w.ownsRow 0 5 1 (.slice p k c) k (xs.take k) := by
  have hl := h.1
  refine ⟨by rw [List.length_take]; omega, ?_⟩
  rcases h.2 with ⟨h1, h2⟩ | ⟨g, cap, cur, h1, hb, hg, h3, h4, h5, h6⟩
  · injection h1 with e1 e2 e3
    subst e1 e2 e3
    obtain rfl : k = 0 := by omega
    exact .inl ⟨rfl, by simp⟩
  · injection h1 with e1 e2 e3
    subst e1 e3
    refine .inr ⟨g, c, cur, rfl, hb, hg, by omega, h4, h5, ?_⟩
    rw [← h6, List.take_take]
    congr 1
    omega
/-- a file cut -/
def Fil.cut (f : Fil) (p : Option Addr) (c k : Nat) : Fil := { f with sl := .slice p k c, bytes := cutB f.bytes k, dur := min f.dur k }
theorem short_end (g M N : Nat) (C U n : Int) (la : List Fil) (f : Fil) (lb : List Fil) (k : Nat) (w : World) (h : DiskAt w g M N C U n (la ++ f :: lb)) (hk : k ≤ f.bytes.size) (p : Option Addr) (c : Nat) (hp : f.sl = .slice p f.bytes.size c) (m nq : Nat) (hm : m = min f.dur k) :
    DiskAt ((((w.setCell ⟨g, 1, none⟩ (.int .i64 (U - ((f.bytes.size : Int) - (k : Int))))).setCell ⟨f.cb, 0, none⟩ (.slice p k c)).setCell ⟨f.cb, 1, none⟩ (.int .i64 (m : Int))).drewN nq) g M N C (U - ((f.bytes.size : Int) - (k : Int))) n (la ++ f.cut p c k :: lb) ∧ Turned (owns g M N (la ++ f :: lb)) (owns g M N (la ++ f.cut p c k :: lb)) w ((((w.setCell ⟨g, 1, none⟩ (.int .i64 (U - ((f.bytes.size : Int) - (k : Int))))).setCell ⟨f.cb, 0, none⟩ (.slice p k c)).setCell ⟨f.cb, 1, none⟩ (.int .i64 (m : Int))).drewN nq) := by
  obtain ⟨fc, fo⟩ := h.files f (by simp)
  have hap := h.apart
  rw [owns_split, List.nodup_append, List.nodup_append] at hap
  obtain ⟨⟨a1, a2, a3⟩, _, _⟩ := hap
  have hcbo : f.cb ∈ f.own := by simp [Fil.own]
  have hgf : ¬ g = f.cb := fun e => a3 g (by simp) g (by rw [e]; exact hcbo) rfl
  have hNf : ¬ N = f.cb := fun e => a3 N (by simp) N (by rw [e]; exact hcbo) rfl
  simp only [List.nodup_cons, List.mem_cons, not_or] at a1
  have hgN : g ≠ N := a1.1.2.1
  have hR : ∀ r, f.sl.ownBlock = some r → r ≠ f.cb ∧ r ≠ g := fun r hr => by
    have hmm : r ∈ f.own := by simp [Fil.own, hr]
    refine ⟨fun e => ?_, fun e => a3 g (by simp) g (e ▸ hmm) rfl⟩
    unfold Fil.own at a2
    rw [hr] at a2
    simp at a2
    exact a2 e.symm
  have hob : (Value.slice p k c).ownBlock = f.sl.ownBlock := by rw [hp]; cases p <;> rfl
  have hoF : ∀ r, r ≠ f.cb → r ≠ g → ((((w.setCell ⟨g, 1, none⟩ (.int .i64 (U - ((f.bytes.size : Int) - (k : Int))))).setCell ⟨f.cb, 0, none⟩ (.slice p k c)).setCell ⟨f.cb, 1, none⟩ (.int .i64 (m : Int))).drewN nq).heap[r]? = w.heap[r]? := fun r h1 h2 => by
    show (((w.setCell _ _).setCell _ _).setCell _ _).heap[r]? = _
    rw [Below.heap_setCell _ _ _ _ h1, Below.heap_setCell _ _ _ _ h1, Below.heap_setCell _ _ _ _ h2]
  have hgF : ((((w.setCell ⟨g, 1, none⟩ (.int .i64 (U - ((f.bytes.size : Int) - (k : Int))))).setCell ⟨f.cb, 0, none⟩ (.slice p k c)).setCell ⟨f.cb, 1, none⟩ (.int .i64 (m : Int))).drewN nq).heap[g]? = some (.cells #[.int .i64 C, .int .i64 (U - ((f.bytes.size : Int) - (k : Int))), .map (some M), wrV N, cnV N] 58 (0, 0)) := by
    show (((w.setCell _ _).setCell _ _).setCell _ _).heap[g]? = _
    rw [Below.heap_setCell _ _ _ _ (fun e => hgf e), Below.heap_setCell _ _ _ _ (fun e => hgf e), heap_setCell_same _ g 1 _ _ _ h.disk]
    rfl
  have h1 : ((w.setCell ⟨g, 1, none⟩ (.int .i64 (U - ((f.bytes.size : Int) - (k : Int))))).setCell ⟨f.cb, 0, none⟩ (.slice p k c)).heap[f.cb]? = some (.cells #[.slice p k c, .int .i64 (f.dur : Int)] 66 (0, 0)) := by
    rw [heap_setCell_same _ f.cb 0 _ _ _ ((Below.heap_setCell _ _ _ _ (fun e => hgf e.symm)).trans fc)]
    rfl
  have hcF : ((((w.setCell ⟨g, 1, none⟩ (.int .i64 (U - ((f.bytes.size : Int) - (k : Int))))).setCell ⟨f.cb, 0, none⟩ (.slice p k c)).setCell ⟨f.cb, 1, none⟩ (.int .i64 (m : Int))).drewN nq).heap[f.cb]? = some (.cells #[.slice p k c, .int .i64 (m : Int)] 66 (0, 0)) := by
    show (((w.setCell _ _).setCell _ _).setCell _ _).heap[f.cb]? = _
    rw [heap_setCell_same _ f.cb 1 _ _ _ h1]
    rfl
  have hoW : ∀ r, r < w.heap.size → r ≠ g → r ≠ N → r ∉ f.own → ((((w.setCell ⟨g, 1, none⟩ (.int .i64 (U - ((f.bytes.size : Int) - (k : Int))))).setCell ⟨f.cb, 0, none⟩ (.slice p k c)).setCell ⟨f.cb, 1, none⟩ (.int .i64 (m : Int))).drewN nq).heap[r]? = w.heap[r]? := fun r _ h2 _ h4 => hoF r (fun e => h4 (e ▸ hcbo)) h2
  have hown : ((((w.setCell ⟨g, 1, none⟩ (.int .i64 (U - ((f.bytes.size : Int) - (k : Int))))).setCell ⟨f.cb, 0, none⟩ (.slice p k c)).setCell ⟨f.cb, 1, none⟩ (.int .i64 (m : Int))).drewN nq).ownsRow 0 5 1 (.slice p k c) (cutB f.bytes k).size (Lib.strCells (cutB f.bytes k)) := by
    rw [cutB_size _ _ hk, cutB_cells]
    rw [hp] at fo
    refine ownsRow_same (ownsRow_take fo hk) (fun r hr => ?_)
    rw [hob] at hr
    exact hoF r (hR r hr).1 (hR r hr).2
  refine ⟨h.change (f' := f.cut p c k) rfl rfl (fun r hr => .inl (by rw [← hob]; exact hr)) hgF ((hoF N hNf (fun e => hgN e.symm)).trans h.count) ⟨?_, hown⟩ hoW, ⟨rfl, rfl, rfl, ?_, fun r hr hnr => ?_, fun r hr => .inl ?_⟩⟩
  · show ((((w.setCell ⟨g, 1, none⟩ (.int .i64 (U - ((f.bytes.size : Int) - (k : Int))))).setCell ⟨f.cb, 0, none⟩ (.slice p k c)).setCell ⟨f.cb, 1, none⟩ (.int .i64 (m : Int))).drewN nq).heap[f.cb]? = some (.cells #[.slice p k c, .int .i64 ((min f.dur k : Nat) : Int)] 66 (0, 0))
    rw [← hm]
    exact hcF
  · show w.heap.size ≤ (((w.setCell _ _).setCell _ _).setCell _ _).heap.size
    simp [World.setCell]
  · rw [owns_split] at hnr
    simp only [List.mem_append, List.mem_cons, not_or] at hnr
    exact hoW r hr hnr.1.1.1 hnr.1.1.2.2.1 hnr.1.2
  · rw [owns_split] at hr ⊢
    have e : (f.cut p c k).own = f.own := by show f.cb :: (Value.slice p k c).ownBlock.toList = f.cb :: f.sl.ownBlock.toList; rw [hob]
    rw [e] at hr
    exact hr
set_option maxHeartbeats 1000000 in
set_option maxRecDepth 100000 in
theorem shorten_any (g M N : Nat) (C U n : Int) (la : List Fil) (f : Fil) (lb : List Fil) (k : Nat) (w : World) (h : DiskAt w g M N C U n (la ++ f :: lb)) (hk : k ≤ f.bytes.size) (hU : 0 ≤ U) (hC : U ≤ 1073741824) (hb : (f.bytes.size : Int) ≤ U) :
    Calls Try.prog 27 #[.pointer (some ⟨g, 0, none⟩), .pointer (some ⟨f.cb, 0, none⟩), .int .i64 (k : Int)] w fun e w' => e = .returned (.tuple #[]) ∧
      ∃ p c, f.sl = .slice p f.bytes.size c ∧ DiskAt w' g M N C (U - (f.bytes.size - k : Int)) n (la ++ f.cut p c k :: lb) ∧ Turned (owns g M N (la ++ f :: lb)) (owns g M N (la ++ f.cut p c k :: lb)) w w' := by
  have H := Lib.hid h
  have hfm : f ∈ la ++ f :: lb := by simp
  obtain ⟨fc, fo⟩ := h.files f hfm
  obtain ⟨p, c, hp⟩ := own_len fo
  obtain ⟨c0, c1, c2, c3, c4⟩ := h.gcell
  have d0 : w.cell? ⟨f.cb, 0, none⟩ = some (.slice p f.bytes.size c) := by rw [Lib.cell_of_heap fc, hp]; rfl
  have d1 : w.cell? ⟨f.cb, 1, none⟩ = some (.int .i64 (f.dur : Int)) := by rw [Lib.cell_of_heap fc]; rfl
  have x0 : w.frozen? ⟨f.cb, 0, none⟩ = false := by simp [World.frozen?, fc]
  have x1 : w.frozen? ⟨f.cb, 1, none⟩ = false := by simp [World.frozen?, fc]
  have y1 : w.frozen? ⟨g, 1, none⟩ = false := by simp [World.frozen?, h.disk]
  have hw0 : IntKind.i64.wrap ((f.bytes.size : Int) - (k : Int)) = (f.bytes.size : Int) - (k : Int) := by rw [IntKind.wrap_i64]; omega
  have hw1 : IntKind.i64.wrap (U - ((f.bytes.size : Int) - (k : Int))) = U - ((f.bytes.size : Int) - (k : Int)) := by rw [IntKind.wrap_i64]; omega
  have hcap : f.bytes.size ≤ c := by
    rw [hp] at fo
    rcases fo.2 with ⟨h1, _⟩ | ⟨_, cap, _, h1, _, _, h3, _⟩
    · injection h1 with _ h1 h2; omega
    · injection h1 with _ _ h2; omega
  have hkc : (k : Int) ≤ (c : Int) := by omega
  have hgf : ¬ g = f.cb := fun e => by
    have hap := h.apart
    rw [owns_split, List.nodup_append, List.nodup_append] at hap
    exact hap.1.2.2 g (by simp) g (by rw [e]; simp [Fil.own]) rfl
  have hfg : ¬ f.cb = g := fun e => hgf e.symm
  have HP := Lib.hid hp
  have HFO := Lib.hid fo
  have HFC := Lib.hid fc
  clear h hfm fc fo hp c2 c3 c4
  go_enter Try.func27, Try.ntmps27
  go_wp2_with fail
  refine wp_region_q [0,0,0,1,0,0,0,1,0,0,0,0,0,0,2] (by kernel_rfl) (by kernel_rfl) ?_
  (refine q_pure_n rfl (fun K hK => ?_); go_simp; refine hK _ _ ?_; clear hK K)
  (refine q_pure_n rfl (fun K hK => ?_); go_simp; refine hK _ _ ?_; clear hK K)
  (refine q_pure_n rfl (fun K hK => ?_); go_simp; refine hK _ _ ?_; clear hK K)
  (refine q_read_n rfl (fun K hK => ?_); go_simp; refine hK _ _ ?_; clear hK K)
  (refine q_pure_n rfl (fun K hK => ?_); go_simp; refine hK _ _ ?_; clear hK K)
  (refine q_pure_n rfl (fun K hK => ?_); go_simp; refine hK _ _ ?_; clear hK K)
  (refine q_pure_n rfl (fun K hK => ?_); go_simp; refine hK _ _ ?_; clear hK K)
  (refine q_read_n rfl (fun K hK => ?_); go_simp; refine hK _ _ ?_; clear hK K)
  (refine q_pure_n rfl (fun K hK => ?_); go_simp; refine hK _ _ ?_; clear hK K)
  (refine q_pure_n rfl (fun K hK => ?_); go_simp; refine hK _ _ ?_; clear hK K)
  (refine q_pure_n rfl (fun K hK => ?_); go_simp; refine hK _ _ ?_; clear hK K)
  (refine q_pure_n rfl (fun K hK => ?_); go_simp; refine hK _ _ ?_; clear hK K)
  (refine q_pure_n rfl (fun K hK => ?_); go_simp; refine hK _ _ ?_; clear hK K)
  (refine q_pure_n rfl (fun K hK => ?_); go_simp; refine hK _ _ ?_; clear hK K)
  (refine q_write_n rfl (fun K hK => ?_); go_simp; refine fun nw => ⟨_, ⟨_, rfl⟩, hK _ _ ?_⟩; clear hK K)
  refine q_nil ?_
  intro nq
  go_wp2_with fail
  all_goals go_end0
  all_goals exact ⟨rfl, p, c, HP.out, short_end g M N C U n la f lb k w H.out hk p c HP.out _ nq (by omega)⟩
end Go.Proofs.Ytjjcicfilbfbjaa.Dsk
