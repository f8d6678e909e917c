/- Chapter 07: a dict of the call's own: the forms for the laws' walks. -/
import Derived.Test.YtnoalklbgncajaaDoorDk07
namespace Go.Proofs.YtnoalklbgncajaaDoor.Dct
open Go Go.MapKept Go.RowKit Go.Proofs.YtnoalklbgncajaaDoor.Pin Go.Proofs.YtnoalklbgncajaaDoor.Mps Go.Proofs.YtnoalklbgncajaaDoor.Bok Go.Proofs.YtnoalklbgncajaaDoor.Uw Go.Proofs.YtnoalklbgncajaaDoor.Sip
/-- a dict in memory from B on -/
structure Dk (B : Nat) (w : World) (d : Nat) (s : St) : Prop where
  at' : DAt w d s
  inv : Inv s
  own : ∀ b ∈ s.own d, B ≤ b
  bnd : B ≤ w.heap.size
theorem Dk.below {B : Nat} {w w' : World} {d : Nat} {s : St} (h : Dk B w d s) (hb : Below w.heap.size w w') : Dk B w' d s := ⟨h.at'.below hb, h.inv, h.own, Nat.le_trans h.bnd hb.size⟩
theorem Dk.frm {B : Nat} {own : Nat → Prop} {w w' : World} {d : Nat} {s : St} (h : Dk B w d s) (hf : Frm own w w') (hn : ∀ b ∈ s.own d, ¬ own b) : Dk B w' d s := ⟨h.at'.frm hf hn, h.inv, h.own, Nat.le_trans h.bnd hf.size⟩
theorem Dk.turn {B : Nat} {w w' : World} {d : Nat} {s s' : St} (h : Dk B w d s) (ht : Trn w w' d s s') : Dk B w' d s' ∧ Below B w w' := by
  refine ⟨⟨ht.at', ht.inv, fun b hb => (ht.own b hb).elim (fun h1 => h.own b h1) (fun h1 => Nat.le_trans h.bnd h1), Nat.le_trans h.bnd ht.frm.size⟩, ⟨ht.frm.os, ht.frm.tape, ht.frm.output, ht.frm.size, fun k hk => ht.frm.block k (Nat.lt_of_lt_of_le hk h.bnd) (fun e => by have := h.own k e; omega)⟩⟩
theorem new_dk (sd : BitVec 64) (w : World) : Calls Tryd.prog 6 #[U sd] w fun e w' => ∃ d s, e = .returned (.pointer (some ⟨d, 0, none⟩)) ∧ Dk w.heap.size w' d s ∧ s.sd = sd ∧ s.ents = [] ∧ s.n = 0 ∧ s.shape = (4, none, 0) ∧ Below w.heap.size w w' := by
  refine (new_any sd w).mono ?_
  rintro e w' ⟨d, a, rfl, hD, ha, hd, hb⟩
  have he : St.ents ⟨sd, a, List.replicate 4 none, none, 0, 0⟩ = [] := rfl
  refine ⟨d, _, rfl, ⟨hD, ⟨?_, fun x hx => (by cases hx), fun _ => rfl, fun x hx => (by cases hx), by rw [he]; exact List.nodup_nil, by rw [he]; rfl, ⟨2, by omega, rfl⟩, fun x hx => (by cases hx)⟩, ?_, hb.size⟩, rfl, he, rfl, rfl, hb⟩
  · intro i b l hi
    have := List.eq_of_mem_replicate (List.mem_of_getElem? hi)
    cases this
  · intro b hbm
    rw [own_none rfl] at hbm
    rcases List.mem_cons.1 hbm with rfl | hbm
    · exact hd
    rcases List.mem_cons.1 hbm with rfl | hbm
    · exact ha
    · cases hbm
theorem set_dk {B : Nat} {w : World} {d : Nat} {s : St} (h : Dk B w d s) (k : ByteArray) (v : Int) (hk : k.size ≤ 140737488351232) (hn : s.n ≤ 274877906944) :
    Calls Tryd.prog 7 #[.pointer (some ⟨d, 0, none⟩), .string k, .int .i64 v] w fun e w' => ∃ s', Dk B w' d s' ∧ s'.sd = s.sd ∧ SetR k v s.ents s'.ents e ∧ (∀ b, e = .returned (.bool b) → s'.shape = setS b s.n (stepS1 s.shape)) ∧ Below B w w' ∧ Trn w w' d s s' :=
  (set_any h.at' h.inv k v hk hn).mono fun _ _ ⟨s', ht, h1, h2⟩ => ⟨s', (h.turn ht).1, ht.sd, h1, h2, (h.turn ht).2, ht⟩
theorem delete_dk {B : Nat} {w : World} {d : Nat} {s : St} (h : Dk B w d s) (k : ByteArray) (hk : k.size ≤ 140737488351232) (hn : s.n ≤ 274877906944) :
    Calls Tryd.prog 11 #[.pointer (some ⟨d, 0, none⟩), .string k] w fun e w' => ∃ s', Dk B w' d s' ∧ s'.sd = s.sd ∧ DelR k s.ents s'.ents e ∧ Below B w w' ∧ Trn w w' d s s' :=
  (delete_any h.at' h.inv k hk hn).mono fun _ _ ⟨s', ht, h1⟩ => ⟨s', (h.turn ht).1, ht.sd, h1, (h.turn ht).2, ht⟩
theorem step_dk {B : Nat} {w : World} {d : Nat} {s : St} (h : Dk B w d s) (n : Int) (hn : -9223372036854775808 ≤ n ∧ n ≤ 9223372036854775807) :
    Calls Tryd.prog 9 #[.pointer (some ⟨d, 0, none⟩), .int .i64 n] w fun e w' => e = .returned (.tuple #[]) ∧ ∃ s', Dk B w' d s' ∧ s'.sd = s.sd ∧ s'.ents.Perm s.ents ∧ s'.n = s.n ∧ s'.shape = stepS n.toNat s.shape ∧ Below B w w' ∧ Trn w w' d s s' :=
  (step_any h.at' h.inv n hn).mono fun _ _ ⟨h0, s', ht, h1, h2, h3⟩ => ⟨h0, s', (h.turn ht).1, ht.sd, h1, h2, h3, (h.turn ht).2, ht⟩
theorem Dk.cnt {B : Nat} {w : World} {d : Nat} {s : St} (h : Dk B w d s) {L : Ents} (hp : s.ents.Perm L) : s.n = L.length := by rw [h.inv.cnt, hp.length_eq]
theorem SetR.new {k : ByteArray} {v : Int} {l l' L : Ents} {e : Ending} (h : SetR k v l l' e) (hp : l.Perm L) (hn : ∀ y ∈ L, y.1 ≠ k) : e = .returned (.bool true) ∧ l'.Perm ((k, v) :: L) := by
  rcases h with ⟨_, v0, rest, h1, _⟩ | ⟨h1, _, h3⟩
  · exact absurd rfl (hn (k, v0) (hp.mem_iff.1 (h1.mem_iff.2 List.mem_cons_self)))
  · exact ⟨h1, h3.trans (hp.cons _)⟩
theorem SetR.old {k : ByteArray} {v v0 : Int} {l l' L : Ents} {e : Ending} (h : SetR k v l l' e) (hp : l.Perm ((k, v0) :: L)) (hnd : (l.map (·.1)).Nodup) : e = .returned (.bool false) ∧ l'.Perm ((k, v) :: L) := by
  rcases h with ⟨h0, v1, rest, h1, h2⟩ | ⟨_, h2, _⟩
  · refine ⟨h0, h2.trans (List.Perm.cons _ ?_)⟩
    have hm : (k, v1) ∈ (k, v0) :: L := hp.mem_iff.1 (h1.mem_iff.2 List.mem_cons_self)
    have hn2 := nd_perm hp hnd
    rw [List.map_cons] at hn2
    have hv : v1 = v0 := by
      rcases List.mem_cons.1 hm with e | hm
      · injection e
      · exact absurd (List.mem_map.2 ⟨(k, v1), hm, rfl⟩) (List.nodup_cons.1 hn2).1
    rw [hv] at h1
    exact (List.perm_cons _).1 (h1.symm.trans hp)
  · exact absurd rfl (h2 (k, v0) (hp.mem_iff.2 List.mem_cons_self))
theorem DelR.yes {k : ByteArray} {v0 : Int} {l l' L : Ents} {e : Ending} (h : DelR k l l' e) (hp : l.Perm ((k, v0) :: L)) (hnd : (l.map (·.1)).Nodup) : e = .returned (.bool true) ∧ l'.Perm L := by
  rcases h with ⟨h0, v1, h1⟩ | ⟨_, h2, _⟩
  · refine ⟨h0, ?_⟩
    have hm : (k, v1) ∈ (k, v0) :: L := hp.mem_iff.1 (h1.mem_iff.2 List.mem_cons_self)
    have hn2 := nd_perm hp hnd
    rw [List.map_cons] at hn2
    have hv : v1 = v0 := by
      rcases List.mem_cons.1 hm with e | hm
      · injection e
      · exact absurd (List.mem_map.2 ⟨(k, v1), hm, rfl⟩) (List.nodup_cons.1 hn2).1
    rw [hv] at h1
    exact (List.perm_cons _).1 (h1.symm.trans hp)
  · exact absurd rfl (h2 (k, v0) (hp.mem_iff.2 List.mem_cons_self))
theorem DelR.no {k : ByteArray} {l l' L : Ents} {e : Ending} (h : DelR k l l' e) (hp : l.Perm L) (hn : ∀ y ∈ L, y.1 ≠ k) : e = .returned (.bool false) ∧ l'.Perm L := by
  rcases h with ⟨_, v1, h1⟩ | ⟨h0, _, h3⟩
  · exact absurd rfl (hn (k, v1) (hp.mem_iff.1 (h1.mem_iff.2 List.mem_cons_self)))
  · exact ⟨h0, h3.trans hp⟩
theorem GetR.yes {k : ByteArray} {v : Int} {l : Ents} {e : Ending} (h : GetR k l e) (hm : (k, v) ∈ l) (hnd : (l.map (·.1)).Nodup) : e = .returned (.tuple #[.int .i64 v, .bool true]) := by
  rcases h with ⟨v1, h0, h1⟩ | ⟨_, h2⟩
  · have hv : v1 = v := by
      obtain ⟨la, lb, rfl⟩ := List.append_of_mem h1
      rw [List.map_append, List.map_cons] at hnd
      obtain ⟨_, n2, n3⟩ := List.nodup_append.1 hnd
      rcases List.mem_append.1 hm with hm | hm
      · exact absurd rfl (n3 k (List.mem_map.2 ⟨_, hm, rfl⟩) k List.mem_cons_self)
      · rcases List.mem_cons.1 hm with e | hm
        · injection e with _ e; exact e.symm
        · exact absurd (List.mem_map.2 ⟨_, hm, rfl⟩) (List.nodup_cons.1 n2).1
    rw [h0, hv]
  · exact absurd rfl (h2 _ hm)
theorem neq_U2 : Value.int .u64 2 = U 2#64 := rfl
theorem scan_zero {s : St} {v' : BitVec 64} {L : List ByteArray} (h : ScanR s 0#64 v' L) (he : s.ents = []) (hs : s.shape = (4, none, 0)) : U v' = .int .u64 2 ∧ L = [] := by
  obtain ⟨a, h2, h40, h3, h4, h5, h6, h7, _⟩ := h.shape
  have hl : s.p0.length = 4 := congrArg Prod.fst hs
  have ht : s.t1 = none := by
    have : s.t1.map (fun x => x.2.length) = none := congrArg (fun x : Shp => x.2.1) hs
    cases e : s.t1 with
    | none => rfl
    | some x => rw [e] at this; cases this
  have ha : a = 2 := by
    rcases h5 with h5 | ⟨x, hx, _⟩
    · rw [hl] at h5
      have : (2 : Nat) ^ a = 2 ^ 2 := h5
      exact Nat.le_antisymm ((Nat.pow_le_pow_iff_right (a := 2) (by omega)).1 (Nat.le_of_eq this)) ((Nat.pow_le_pow_iff_right (a := 2) (by omega)).1 (Nat.le_of_eq this.symm))
    · rw [ht] at hx; cases hx
  subst ha
  refine ⟨?_, ?_⟩
  · have hR : R (0#64) = 0 := R_zero.2 rfl
    rw [hR] at h6
    have h8 : R v' = 4611686018427387904 := by rw [h6]; rfl
    have h9 : v'.reverse = 4611686018427387904#64 := BitVec.eq_of_toNat_eq h8
    have h10 : v' = (4611686018427387904#64).reverse := by rw [← h9, rev_rev]
    have h11 : (4611686018427387904#64).reverse = 2#64 := by
      rw [← revP_eq]
      rfl
    rw [h10, h11]
    rfl
  · cases L with
    | nil => rfl
    | cons k L =>
      obtain ⟨⟨v, hv⟩, _⟩ := h7 k List.mem_cons_self
      rw [he] at hv
      cases hv
end Go.Proofs.YtnoalklbgncajaaDoor.Dct
