/- Chapter 07: a map's entry written anew, and taken out; a place of a dict that turns. -/
import Derived.Test.YtnoalklbgncajaaDoorDsw07
import Derived.Maps.OwnSet
namespace Go.Proofs.YtnoalklbgncajaaDoor.Dct
open Go Go.MapKept Go.RowKit Go.Proofs.YtnoalklbgncajaaDoor.Pin Go.Proofs.YtnoalklbgncajaaDoor.Mps Go.Proofs.YtnoalklbgncajaaDoor.Bok Go.Proofs.YtnoalklbgncajaaDoor.Uw Go.Proofs.YtnoalklbgncajaaDoor.Sip
/-- the entries with one written anew -/
def upd (nm : ByteArray) (v : Value) : KV → KV
  | [] => []
  | p :: r => if (nm == p.1) = true then (nm, v) :: r else p :: upd nm v r
theorem modify_at {nm : ByteArray} {v : Value} : ∀ (l : List MapEntry) (ps : KV) (i j : Nat) (v0 : Value), l.map (fun x => (x.key, x.val)) = ps.map (fun p => (Value.string p.1, p.2)) → seek nm ps i = some (i + j, v0) →
    (l.modify j (fun e => { e with key := .string nm, val := v })).map (fun x => (x.key, x.val)) = (upd nm v ps).map (fun p => (Value.string p.1, p.2)) ∧ ∃ e, l[j]? = some e ∧ e.key = .string nm
  | [], [], _, _, _, _, h => by cases h
  | [], _ :: _, _, _, _, h, _ => by simp at h
  | _ :: _, [], _, _, _, h, _ => by simp at h
  | x :: l, p :: ps, i, j, v0, h, hs => by
    simp only [List.map_cons, List.cons.injEq] at h
    unfold seek at hs
    unfold upd
    cases hq : (nm == p.1) with
    | true =>
      rw [hq] at hs
      simp only [if_true, Option.some.injEq, Prod.mk.injEq] at hs
      obtain rfl : j = 0 := by omega
      have h1 := congrArg Prod.fst h.1
      have h2 := (MapKept.bytes_beq _ _).1 hq
      exact ⟨by simp [h.2], x, rfl, by rw [h2]; exact h1⟩
    | false =>
      rw [hq] at hs
      simp only [Bool.false_eq_true, if_false] at hs
      cases j with
      | zero =>
        exfalso
        have hge : ∀ (ps : List (ByteArray × Value)) (i a : Nat) (v : Value), seek nm ps i = some (a, v) → i ≤ a := by
          intro ps
          induction ps with
          | nil => intro i a v h; cases h
          | cons p r ih =>
            intro i a v h
            unfold seek at h
            split at h
            · simp at h; omega
            · have := ih _ _ _ h; omega
        have := hge _ _ _ _ hs
        omega
      | succ j =>
        obtain ⟨h3, e, h4, h5⟩ := modify_at l ps (i + 1) j v0 h.2 (by rw [hs]; simp; omega)
        refine ⟨?_, e, by simpa using h4, h5⟩
        rw [List.modify_succ_cons, List.map_cons, h3, h.1]
        rfl
/-- 'm[nm] = v', nm there -/
theorem put_old {P : Program} {w : World} {M : Nat} {t k e : TypeId} {ps : KV} (ht : P.underlying t = some (.map k e)) (hk : P.underlying k = some .string) (h : MapAt w M ps) (nm : ByteArray) (v : Value) {i : Nat} {v0 : Value} (hn : seek nm ps 0 = some (i, v0)) :
    ∃ w', (Instr.mapUpdate t (.map (some M)) (.string nm) v).run P w = .ok () w' ∧ MapAt w' M (upd nm v ps) ∧ OnlyMap w w' M := by
  obtain ⟨es, clock, hb, he, hS⟩ := h
  have hs := run_seek (w := w) hk he nm
  rw [hn] at hs
  obtain ⟨h3, e, h4, h5⟩ := modify_at (v := v) es.toList ps 0 i v0 he (by rw [hn]; simp)
  have hj : es[i]? = some e := by simpa using h4
  have hkey : ∀ e', es[i]? = some e' → ({ e' with key := .string nm, val := v } : MapEntry).key = e'.key := fun e' he' => by rw [hj] at he'; cases he'; exact h5.symm
  refine ⟨{ w with heap := w.heap.setIfInBounds M (.map (es.modify i (fun e => { e with key := .string nm, val := v })) clock) }, ?_, ⟨_, _, (heap_set hb).1, ?_, stamped_modify hS _ _ (fun _ _ => rfl) (fun e' _ he' => hkey e' he')⟩, set_only hb⟩
  · simp [Instr.mapUpdate, run_underlying ht, MapKept.run_getObj_map hb, run_chk hk, hs, hj, h5, run_keyThatStays (d := .string) (k := .string nm) (show IsKey .string (.string nm) from trivial), run_setObj_map _ hb, Result.andThen]
  · rw [← h3]
    simp
theorem wpList_put_old {ops : Array Oper} {rest : List Oper} {o : Oper} {a : Act} {Q : Exit → Act → World → Prop} (w : World) (hgd : o.guard = none) (m x v : Operand) (hop : o.op = Op.mapUpdate 52 m x v) (M : Nat) (ps : List (ByteArray × Value)) (nm : ByteArray) (val : Value)
    (hm : a.eval m = .map (some M)) (hx : a.eval x = .string nm) (hv : a.eval v = val) (h : MapAt w M ps) {i : Nat} {v0 : Value} (hn : seek nm ps 0 = some (i, v0))
    (hK : ∀ w', MapAt w' M (upd nm val ps) → OnlyMap w w' M → wpList Tryd.prog ops Q rest (a.put o.dst undef) w') : wpList Tryd.prog ops Q (o :: rest) a w := by
  refine wpList_plain hgd fun K' hK' => ?_
  obtain ⟨w', hrun, r1, r2⟩ := put_old (P := Tryd.prog) Tryd.underlying52 Tryd.underlying9 h nm val hn
  unfold Oper.wp
  simp [execOp, hop, hm, hx, hv, hrun, Result.andThen]
  exact hK' _ _ (hK w' r1 r2)
theorem wpList_del {ops : Array Oper} {rest : List Oper} {o : Oper} {a : Act} {Q : Exit → Act → World → Prop} (w : World) (hgd : o.guard = none) (m x : Operand) (hop : o.op = Op.call { callee := Callee.builtin Builtin.delete, args := #[m, x], argTypes := #[52, 9] }) (M : Nat) (ps : List (ByteArray × Value)) (nm : ByteArray)
    (hm : a.eval m = .map (some M)) (hx : a.eval x = .string nm) (h : MapAt w M ps) {i : Nat} {v : Value} (hn : seek nm ps 0 = some (i, v))
    (hK : ∀ w', MapAt w' M (without nm ps) → OnlyMap w w' M → wpList Tryd.prog ops Q rest (a.put o.dst (.tuple #[])) w') : wpList Tryd.prog ops Q (o :: rest) a w := by
  refine wpList_plain hgd fun K' hK' => ?_
  obtain ⟨w', hrun, r1, r2⟩ := Mps.del (P := Tryd.prog) Tryd.underlying52 Tryd.underlying9 h nm o.type hn
  unfold Oper.wp
  simp [execOp, hop, resolve, invoke, builtin, hm, hx, hrun, Result.andThen]
  exact hK' _ _ (hK w' r1 r2)
/-- an entry found: what lies ahead of it and behind -/
theorem seek_split (k : ByteArray) : ∀ (l : Ents) (i j : Nat) (u : Value), seek k (mapE l) i = some (j, u) → ∃ la lb v0, l = la ++ (k, v0) :: lb ∧ (∀ v, upd k (.int .i64 v) (mapE l) = mapE (la ++ (k, v) :: lb)) ∧ without k (mapE l) = mapE (la ++ lb)
  | [], i, j, u, h => by cases h
  | x :: l, i, j, u, h => by
    cases hq : (k == x.1) with
    | true =>
      have h2 := (MapKept.bytes_beq _ _).1 hq
      refine ⟨[], l, x.2, ?_, fun v => ?_, ?_⟩
      · rw [h2]; rfl
      · show (if (k == x.1) = true then _ else _) = _
        rw [if_pos hq]
        rfl
      · show (if (k == x.1) = true then _ else _) = _
        rw [if_pos hq]
        rfl
    | false =>
      have h3 : seek k (mapE l) (i + 1) = some (j, u) := by
        have h4 : seek k (mapE (x :: l)) i = (if (k == x.1) = true then some (i, .int .i64 x.2) else seek k (mapE l) (i + 1)) := rfl
        rw [h4, hq] at h
        exact h
      obtain ⟨la, lb, v0, e1, e2, e3⟩ := seek_split k l (i + 1) j u h3
      refine ⟨x :: la, lb, v0, by rw [e1]; rfl, fun v => ?_, ?_⟩
      · show (if (k == x.1) = true then _ else (x.1, Value.int .i64 x.2) :: upd k (.int .i64 v) (mapE l)) = _
        rw [if_neg (by rw [hq]; simp), e2 v]
        rfl
      · show (if (k == x.1) = true then _ else (x.1, Value.int .i64 x.2) :: without k (mapE l)) = _
        rw [if_neg (by rw [hq]; simp), e3]
        rfl
/-- where a key lies: in its block b, among the entries l -/
def Loc (s : St) (k : ByteArray) (b : Nat) (l : Ents) : Prop :=
  s.p0[plc s.sd k s.p0.length]? = some (some (b, l)) ∨ ∃ x, s.t1 = some x ∧ x.2[plc s.sd k x.2.length]? = some (some (b, l))
/-- s' is s but for the entries of one place -/
structure Turned (d : Nat) (s s' : St) (l l' : Ents) : Prop where
  sd : s'.sd = s.sd
  nn : s'.n = s.n
  t1 : s'.t1.isSome = s.t1.isSome
  len : s'.shape = s.shape
  own : s'.own d = s.own d
  ents : ∃ rest, s.ents.Perm (l ++ rest) ∧ s'.ents.Perm (l' ++ rest)
  inv : (l'.map (·.1)).Sublist (l.map (·.1)) → Inv { s' with n := s'.ents.length }
theorem turn_ok {sd : BitVec 64} {ps : List Pl} {i b : Nat} {l l' : Ents} (hT : TOk sd ps) (hi : ps[i]? = some (some (b, l))) (hs : (l'.map (·.1)).Sublist (l.map (·.1))) : TOk sd (ps.set i (some (b, l'))) := by
  intro j b2 l2 hj x hx
  rw [List.length_set]
  by_cases e : i = j
  · subst e
    rw [List.getElem?_set_self (List.getElem?_eq_some_iff.1 hi).1] at hj
    injection hj with hj
    injection hj with hj
    injection hj with _ hj
    subst hj
    obtain ⟨y, hy, ey⟩ := List.mem_map.1 (hs.mem (List.mem_map.2 ⟨x, hx, rfl⟩))
    have := hT i b l hi y hy
    rw [ey] at this
    exact this
  · rw [List.getElem?_set_ne e] at hj
    exact hT j b2 l2 hj x hx
theorem nd_turn {l l' r a a' : Ents} (h : a.Perm (l ++ r)) (h' : a'.Perm (l' ++ r)) (hs : (l'.map (·.1)).Sublist (l.map (·.1))) (hn : (a.map (·.1)).Nodup) : (a'.map (·.1)).Nodup := by
  have h1 := nd_perm h hn
  refine nd_perm h'.symm ?_
  rw [List.map_append] at h1 ⊢
  exact h1.sublist (hs.append_right _)
theorem Loc.turn {w w' : World} {d : Nat} {s : St} {k : ByteArray} {b : Nat} {l l' : Ents} (h : DAt w d s) (hI : Inv s) (hL : Loc s k b l) (hm : MapAt w' b (mapE l')) (ho : OnlyMap w w' b) : ∃ s', DAt w' d s' ∧ Turned d s s' l l' ∧ b ∈ s.own d := by
  rcases hL with hi | ⟨x, ht, hi⟩
  · have hb2 : (blks (s.p0.set (plc s.sd k s.p0.length) (some (b, l')))) = blks s.p0 := blks_set_some hi
    obtain ⟨rest, h1, h2⟩ := flat_at hi
    have hbm : b ∈ s.own d := by simp [St.own, blks_mem (List.mem_of_getElem? hi)]
    have hp1 : s.ents.Perm (l ++ (rest ++ flat1 s.t1)) := by rw [← List.append_assoc]; exact h1.append_right _
    have hp2 : (flat (s.p0.set (plc s.sd k s.p0.length) (some (b, l'))) ++ flat1 s.t1).Perm (l' ++ (rest ++ flat1 s.t1)) := by rw [← List.append_assoc]; exact (h2 _).append_right _
    refine ⟨_, h.turn0 hi hm ho, ⟨rfl, rfl, rfl, by simp [St.shape], ?_, ⟨rest ++ flat1 s.t1, hp1, hp2⟩, fun hs => ?_⟩, hbm⟩
    · simp [St.own, hb2]
    · refine ⟨turn_ok hI.t0 hi hs, hI.t1, hI.mvn, fun x hx => ?_, nd_turn hp1 hp2 hs hI.nd, rfl, ?_, hI.pow1⟩
      · obtain ⟨h3, h4⟩ := hI.mvs x hx
        refine ⟨by simpa using h3, fun i hi2 => ?_⟩
        have hne : plc s.sd k s.p0.length ≠ i := fun e => by rw [← e] at hi2; have := h4 _ hi2; rw [hi] at this; cases this
        exact (List.getElem?_set_ne hne).trans (h4 i hi2)
      · show Pw (s.p0.set _ _).length
        simpa using hI.pow0
  · have hb2 : (blks (x.2.set (plc s.sd k x.2.length) (some (b, l')))) = blks x.2 := blks_set_some hi
    obtain ⟨rest, h1, h2⟩ := flat_at hi
    have hbm : b ∈ s.own d := by simp [St.own, ht, blks_mem (List.mem_of_getElem? hi)]
    have he : s.ents = flat s.p0 ++ flat x.2 := by unfold St.ents; rw [ht]; rfl
    have hp1 : s.ents.Perm (l ++ (rest ++ flat s.p0)) := by rw [he, ← List.append_assoc]; exact List.perm_append_comm.trans (h1.append_right _)
    have hp2 : (flat s.p0 ++ flat (x.2.set (plc s.sd k x.2.length) (some (b, l')))).Perm (l' ++ (rest ++ flat s.p0)) := by rw [← List.append_assoc]; exact List.perm_append_comm.trans ((h2 _).append_right _)
    refine ⟨_, h.turn1 ht hi hm ho, ⟨rfl, rfl, by rw [ht]; rfl, by simp [St.shape, ht], ?_, ⟨rest ++ flat s.p0, hp1, hp2⟩, fun hs => ?_⟩, hbm⟩
    · rw [own_some (x := (x.1, x.2.set (plc s.sd k x.2.length) (some (b, l')))) rfl, own_some ht, hb2]
    · refine ⟨hI.t0, fun y hy => (by cases hy; exact turn_ok (hI.t1 x ht) hi hs), fun e => (by cases e), fun y hy => hI.mvs x ht, nd_turn hp1 hp2 hs hI.nd, rfl, hI.pow0, fun y hy => ?_⟩
      cases hy
      show Pw (x.2.set _ _).length
      simpa using hI.pow1 x ht
/-- holder's answers -/
theorem Held.cases {s : St} {k : ByteArray} {e : Ending} (h : Held s k e) (hI : Inv s) : (∃ b l v, Loc s k b l ∧ (k, v) ∈ l ∧ (k, v) ∈ s.ents ∧ e = .returned (.map (some b))) ∨ ((∀ y ∈ s.ents, y.1 ≠ k) ∧ e = .returned (.map none)) := by
  rcases h with ⟨b, l, v, h1, h2, h3⟩ | ⟨x, b, l, v, ht, h1, h2, h3⟩ | ⟨h1, h2, h3⟩
  · exact .inl ⟨b, l, v, .inl h1, h2, List.mem_append_left _ (mem_flat.2 ⟨_, b, l, h1, h2⟩), h3⟩
  · exact .inl ⟨b, l, v, .inr ⟨x, ht, h1⟩, h2, List.mem_append_right _ (by rw [ht]; exact mem_flat.2 ⟨_, b, l, h1, h2⟩), h3⟩
  · refine .inr ⟨fun y hy e2 => ?_, h3⟩
    rcases List.mem_append.1 hy with hy | hy
    · obtain ⟨i, b, l, hi, hm⟩ := mem_flat.1 hy
      have h4 := (hI.t0 i b l hi y hm).1
      rw [e2] at h4
      rw [← h4] at hi
      exact h1 _ hi b l rfl y hm e2
    · cases ht : s.t1 with
      | none => rw [ht] at hy; cases hy
      | some x =>
        rw [ht] at hy
        obtain ⟨i, b, l, hi, hm⟩ := mem_flat.1 (show y ∈ flat x.2 from hy)
        have h4 := (hI.t1 x ht i b l hi y hm).1
        rw [e2] at h4
        rw [← h4] at hi
        exact h2 x ht _ hi b l rfl y hm e2
theorem seek_there {k : ByteArray} {v : Int} {l : Ents} (h : (k, v) ∈ l) : ∃ j u, seek k (mapE l) 0 = some (j, u) := by
  rcases seek_cases k l 0 with ⟨_, h2⟩ | ⟨j, u, h1, _⟩
  · exact absurd rfl (h2 _ h)
  · exact ⟨j, _, h1⟩
theorem sub_upd (la lb : Ents) (k : ByteArray) (v v0 : Int) : ((la ++ (k, v) :: lb).map (·.1)).Sublist ((la ++ (k, v0) :: lb).map (·.1)) := by
  simp
theorem sub_del (la lb : Ents) (k : ByteArray) (v0 : Int) : ((la ++ lb).map (·.1)).Sublist ((la ++ (k, v0) :: lb).map (·.1)) := by
  rw [List.map_append, List.map_append]
  exact (List.Sublist.refl _).append (List.sublist_cons_self _ _)
/-- a key is there, or it is not -/
def KeyIn (k : ByteArray) (l : Ents) : Prop := ∃ v, (k, v) ∈ l
end Go.Proofs.YtnoalklbgncajaaDoor.Dct
