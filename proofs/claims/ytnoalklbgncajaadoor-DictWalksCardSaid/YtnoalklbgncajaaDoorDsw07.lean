/- Chapter 07: Step walked. -/
import Derived.Test.YtnoalklbgncajaaDoorDst07
import Derived.Deep.LoopGhost
namespace Go.Proofs.YtnoalklbgncajaaDoor.Dct
open Go Go.RowKit Go.Proofs.YtnoalklbgncajaaDoor.Pin Go.Proofs.YtnoalklbgncajaaDoor.Mps Go.Proofs.YtnoalklbgncajaaDoor.Bok Go.Proofs.YtnoalklbgncajaaDoor.Uw Go.Proofs.YtnoalklbgncajaaDoor.Sip
attribute [local go_sem high] eql_tab
attribute [local go_sem high] run_store_U cells_U eqGuard_U asIntOf_U
attribute [local go_sem high] eql_map neq_map
/-- what a call that turns a dict may do to the rest of the memory -/
structure Trn (w w' : World) (d : Nat) (s s' : St) : Prop where
  at' : DAt w' d s'
  inv : Inv s'
  sd : s'.sd = s.sd
  frm : Frm (fun b => b ∈ s.own d) w w'
  own : ∀ b ∈ s'.own d, b ∈ s.own d ∨ w.heap.size ≤ b
theorem Trn.refl {w : World} {d : Nat} {s : St} (h : DAt w d s) (hI : Inv s) : Trn w w d s s := ⟨h, hI, rfl, Frm.refl _, fun _ hb => .inl hb⟩
theorem Trn.trans {w w1 w2 : World} {d : Nat} {s s1 s2 : St} (h : Trn w w1 d s s1) (h' : Trn w1 w2 d s1 s2) : Trn w w2 d s s2 :=
  ⟨h'.at', h'.inv, h'.sd.trans h.sd, h.frm.trans h'.frm (fun x hx hb => (h.own x hb).resolve_right (by omega)), fun b hb => (h'.own b hb).elim (fun h2 => h.own b h2) (fun h2 => .inr (Nat.le_trans h.frm.size h2))⟩
theorem Trn.below {w w1 w2 : World} {d : Nat} {s s1 : St} (h : Trn w w1 d s s1) (h' : Below w1.heap.size w1 w2) : Trn w w2 d s s1 :=
  ⟨h.at'.below h', h.inv, h.sd, h.frm.trans (own' := fun _ => False) (Frm.of_below h') (fun _ _ k => k.elim), h.own⟩
/-- the inner loop: what has come over into the new table -/
structure Mvg (wr wq : World) (d r : Nat) (s1 : St) (x : Nat × List Pl) (mo : Option Nat) (l : Ents) (ps : List Pl) (rest : KV) : Prop where
  at' : DAt wq d (s1.withT ps)
  iter : IterAt wq r mo (mapE l) rest
  all : (mapE (flat ps) ++ rest).Perm (mapE (flat x.2) ++ mapE l)
  len : ps.length = x.2.length
  ok : TOk s1.sd ps
  frm : Frm (fun b => b ∈ s1.own d) wr wq
  own : ∀ b ∈ (s1.withT ps).own d, b ∈ s1.own d ∨ r < b
theorem put_own {w : World} {d i : Nat} {k : ByteArray} {v : Int} {s : St} {ps ps' : List Pl} (h : PutPs w i k v ps ps') : ∀ b ∈ (s.withT ps').own d, b ∈ (s.withT ps).own d ∨ w.heap.size ≤ b := by
  obtain ⟨c, l, rfl, hz⟩ := h
  have hb : ∀ b ∈ blks (ps.set i (some (c, l ++ [(k, v)]))), b ∈ blks ps ∨ w.heap.size ≤ b := fun b hb => by
    rcases hz with hz | ⟨hz, _, hc⟩
    · rw [blks_set_some hz] at hb; exact .inl hb
    · rcases List.mem_cons.1 ((blks_set_none hz).mem_iff.1 hb) with rfl | hb
      · exact .inr hc
      · exact .inl hb
  intro b hbm
  rcases s.t1_cases with ht | ⟨x, ht⟩
  · rw [St.withT_none ht] at hbm ⊢
    rw [own_none (by exact ht)] at hbm
    rw [own_none (by exact ht)]
    rcases List.mem_cons.1 hbm with e | hbm
    · exact .inl (by simp [e])
    rcases List.mem_cons.1 hbm with e | hbm
    · exact .inl (by simp [e])
    exact (hb b hbm).imp (fun h => by simp [h]) id
  · rw [St.withT_some ht] at hbm ⊢
    rw [own_some (x := (x.1, ps.set i (some (c, l ++ [(k, v)])))) rfl] at hbm
    rw [own_some (x := (x.1, ps)) rfl]
    rcases List.mem_cons.1 hbm with e | hbm
    · exact .inl (by simp [e])
    rcases List.mem_cons.1 hbm with e | hbm
    · exact .inl (by simp [e])
    rcases List.mem_append.1 hbm with hbm | hbm
    · exact .inl (by have hbm : b ∈ blks s.p0 := hbm; simp [hbm])
    rcases List.mem_cons.1 hbm with e | hbm
    · exact .inl (by have e : b = x.1 := e; simp [e])
    exact (hb b hbm).imp (fun h => by simp [h]) id
theorem mapE_mem {l : Ents} {y : ByteArray × Value} (h : y ∈ mapE l) : ∃ v, y.2 = .int .i64 v ∧ (y.1, v) ∈ l := by
  obtain ⟨p, hp, e⟩ := List.mem_map.1 h
  rw [← e]
  exact ⟨p.2, rfl, hp⟩
theorem mapE_perm {l l' : Ents} (h : (mapE l).Perm (mapE l')) : l.Perm l' := by
  have h2 := h.map (fun y : ByteArray × Value => (y.1, match y.2 with | .int _ n => n | _ => 0))
  have e : ∀ l : Ents, (mapE l).map (fun y : ByteArray × Value => (y.1, match y.2 with | .int _ n => n | _ => (0 : Int))) = l := fun l => by
    unfold mapE
    rw [List.map_map]
    exact List.map_id'' (fun _ => rfl) l
  rw [e, e] at h2
  exact h2
/-- one entry more has come over -/
theorem Mvg.step {wr wq wn wz : World} {d r : Nat} {s1 : St} {x : Nat × List Pl} {mo : Option Nat} {l : Ents} {ps ps' : List Pl} {rest rest' : KV} {k : ByteArray} {v : Int} (h : Mvg wr wq d r s1 x mo l ps rest) (ht : s1.t1 = some x) (hr : wr.heap.size = r) (hrl : ∀ b ∈ s1.own d, b < r)
    (hmo : ∀ M, mo = some M → M ∈ blks s1.p0)
    (hp : rest.Perm ((k, .int .i64 v) :: rest')) (hit : IterAt wn r mo (mapE l) rest') (hf : Frm (fun b => b = r) wq wn) (hk : k.size ≤ 140737488351232)
    (hput : PutPs wn (plc s1.sd k ps.length) k v ps ps') (hD : DAt wz d (s1.withT ps')) (hF : Frm (fun b => b = x.1 ∨ b ∈ blks ps) wn wz) : Mvg wr wz d r s1 x mo l ps' rest' := by
  have hps := put_flat hput
  have hapx := h.at'.apart
  rw [St.withT_some ht, own_some (x := (x.1, ps)) rfl] at hapx
  have hro : ∀ b ∈ (s1.withT ps).own d, b ≠ r := fun b hb e => by
    rcases h.own b hb with h1 | h1
    · have := hrl b h1; omega
    · omega
  have hin : ∀ b, b = x.1 ∨ b ∈ blks ps → b ∈ (s1.withT ps).own d := fun b hb => by
    rw [St.withT_some ht, own_some (x := (x.1, ps)) rfl]
    rcases hb with rfl | hb
    · simp
    · simp [hb]
  refine ⟨hD, hit.same (hF.block r hit.lt (fun e => hro r (hin r e) rfl)) (fun M hM => ?_), ?_, by rw [hps.2, h.len], put_ok hput hk h.ok, ?_, fun b hb => ?_⟩
  · subst hM
    refine hF.block M (hit.map).lt (fun e => ?_)
    have hM := hmo M rfl
    obtain ⟨n5, n6, n7⟩ := List.nodup_append.1 (List.nodup_cons.1 (List.nodup_cons.1 hapx).2).2
    refine n7 M hM M ?_ rfl
    rcases e with rfl | e
    · simp
    · simp [e]
  · refine List.Perm.trans ?_ h.all
    have h1 : (mapE (flat ps')).Perm ((k, .int .i64 v) :: mapE (flat ps)) := hps.1.map _
    refine (h1.append_right rest').trans ?_
    refine List.Perm.trans ?_ ((hp.append_left (mapE (flat ps))).symm)
    exact List.perm_middle.symm
  · refine (h.frm.trans (own := fun b => b ∈ s1.own d) (own' := fun b => b = r) hf (fun b hb e => by omega)).trans hF (fun b hb e => ?_)
    rcases h.own b (hin b e) with h1 | h1
    · exact h1
    · omega
  · rcases put_own hput b hb with h1 | h1
    · exact h.own b h1
    · have h2 := h.iter.lt
      have h3 := hf.size
      exact .inr (by omega)
theorem St.sd_withT (s : St) (ps : List Pl) : (s.withT ps).sd = s.sd := by
  rcases s.t1_cases with ht | ⟨x, ht⟩
  · rw [St.withT_none ht]
  · rw [St.withT_some ht]
theorem Mvg.new {wr wq : World} {d r : Nat} {s1 : St} {x : Nat × List Pl} {mo : Option Nat} {z : Pl} {ps : List Pl} {rest rest' : KV} {k : ByteArray} {v : Value} (h : Mvg wr wq d r s1 x mo (plE z) ps rest) (ht : s1.t1 = some x) (hI : Inv s1) (hz : s1.p0[s1.mv]? = some z) (hp : rest.Perm ((k, v) :: rest')) : ∀ y ∈ flat ps, y.1 ≠ k := by
  obtain ⟨q, h1, _⟩ := flat_at hz
  have he : s1.ents = flat s1.p0 ++ flat x.2 := by unfold St.ents; rw [ht]; rfl
  have hn := hI.nd
  rw [he] at hn
  have h2 : (flat s1.p0 ++ flat x.2).Perm ((flat x.2 ++ plE z) ++ q) := by
    refine (h1.append_right _).trans ?_
    refine List.perm_append_comm.trans ?_
    rw [List.append_assoc]
  have h3 := nd_perm h2 hn
  rw [List.map_append] at h3
  have h4 := (List.nodup_append.1 h3).1
  have h5 : ((mapE (flat x.2) ++ mapE (plE z)).map (·.1)).Nodup := by
    have : (mapE (flat x.2) ++ mapE (plE z)).map (·.1) = (flat x.2 ++ plE z).map (·.1) := by
      unfold mapE
      rw [← List.map_append, List.map_map]
      rfl
    rw [this]
    exact h4
  have h6 := ((h.all.map (·.1)).nodup_iff).2 h5
  rw [List.map_append] at h6
  obtain ⟨_, _, h7⟩ := List.nodup_append.1 h6
  intro y hy
  refine h7 y.1 (List.mem_map.2 ⟨(y.1, .int .i64 y.2), List.mem_map.2 ⟨y, hy, rfl⟩, rfl⟩) k ?_
  exact ((hp.map (·.1)).mem_iff).2 (show k ∈ ((k, v) :: rest').map (·.1) from List.mem_cons_self)
theorem put_mid {wr wq wn : World} {d r : Nat} {s1 : St} {x : Nat × List Pl} {mo : Option Nat} {z : Pl} {ps : List Pl} {rest rest' : KV} {k : ByteArray} {v : Int} (h : Mvg wr wq d r s1 x mo (plE z) ps rest) (ht : s1.t1 = some x) (hI : Inv s1) (hz : s1.p0[s1.mv]? = some z) (hr : wr.heap.size = r) (hrl : ∀ b ∈ s1.own d, b < r)
    (hmo : ∀ M, mo = some M → M ∈ blks s1.p0) (hp : rest.Perm ((k, .int .i64 v) :: rest')) (hm : (k, v) ∈ plE z) (hit : IterAt wn r mo (mapE (plE z)) rest') (hf : Frm (fun b => b = r) wq wn) :
    Calls Tryd.prog 20 #[.pointer (some ⟨d, 0, none⟩), .string k, .int .i64 v] wn fun e w' => e = .returned (.tuple #[]) ∧ ∃ ps', Mvg wr w' d r s1 x mo (plE z) ps' rest' := by
  have hk : k.size ≤ 140737488351232 := by
    cases z with
    | none => simp [plE] at hm
    | some y => exact (hI.t0 _ y.1 y.2 hz (k, v) (by simpa [plE] using hm)).2
  have hro : ∀ b ∈ (s1.withT ps).own d, b ≠ r := fun b hb e => by
    rcases h.own b hb with h1 | h1
    · have := hrl b h1; omega
    · omega
  have hD : DAt wn d (s1.withT ps) := h.at'.frm hf hro
  have htg : (s1.withT ps).tg = (x.1, ps) := by rw [St.tg_withT, St.tg_some ht]
  have hc := put_any hD k v hk (by rw [htg, St.sd_withT]; exact fun b l hb => new_at (h.new ht hI hz hp) b l hb)
  rw [htg] at hc
  refine hc.mono ?_
  rintro e w' ⟨rfl, ps', h1, h2, h3⟩
  rw [St.sd_withT] at h1
  rw [St.withT_withT] at h2
  exact ⟨rfl, ps', h.step ht hr hrl hmo hp hit hf hk h1 h2 h3⟩
/-- how great a dict's tables are, and how much has moved -/
abbrev Shp := Nat × Option Nat × Nat
def St.shape (s : St) : Shp := (s.p0.length, s.t1.map (fun x => x.2.length), s.mv)
def stepS1 : Shp → Shp
  | (N, none, mv) => (N, none, mv)
  | (N, some M, mv) => if mv + 1 = N then (M, none, 0) else (N, some M, mv + 1)
def stepS : Nat → Shp → Shp
  | 0, x => x
  | k + 1, x => stepS k (stepS1 x)
theorem stepS_none : ∀ (k N mv : Nat), stepS k (N, none, mv) = (N, none, mv)
  | 0, _, _ => rfl
  | k + 1, N, mv => stepS_none k N mv
theorem shape_none {s : St} (ht : s.t1 = none) (k : Nat) : stepS k s.shape = s.shape := by
  unfold St.shape
  rw [ht]
  exact stepS_none k _ _
theorem shape_moved {s : St} {x : Nat × List Pl} {ps : List Pl} (ht : s.t1 = some x) (hl : ps.length = x.2.length) (h : ¬ s.mv + 1 = s.p0.length) : (s.moved x ps).shape = stepS1 s.shape := by
  unfold St.shape St.moved
  rw [ht]
  simp [stepS1, h, hl]
theorem shape_swapped {s : St} {x : Nat × List Pl} {ps : List Pl} (ht : s.t1 = some x) (hl : ps.length = x.2.length) (h : s.mv + 1 = s.p0.length) : (s.swapped x ps).shape = stepS1 s.shape := by
  unfold St.shape St.swapped
  rw [ht]
  simp [stepS1, h, hl]
theorem shape_go {m n : Int} {s s1 s2 : St} (hm : 0 < m) (h : stepS m.toNat s1.shape = stepS n.toNat s.shape) (h2 : s2.shape = stepS1 s1.shape) : stepS (m - 1).toNat s2.shape = stepS n.toNat s.shape := by
  rw [← h, h2]
  obtain ⟨k, hk⟩ : ∃ k, m.toNat = k + 1 := ⟨m.toNat - 1, by omega⟩
  have : (m - 1).toNat = k := by omega
  rw [hk, this]
  rfl
theorem moved_own {d : Nat} {s : St} {x : Nat × List Pl} {ps : List Pl} (ht : s.t1 = some x) : ∀ b ∈ (s.moved x ps).own d, b ∈ (s.withT ps).own d := by
  intro b hb
  rw [St.withT_some ht, own_some (x := (x.1, ps)) rfl]
  rw [own_some (s := s.moved x ps) (x := (x.1, ps)) rfl] at hb
  exact ((((blks_none_sub s.p0 s.mv).append_right _).cons_cons s.a0).cons_cons d).mem hb
theorem swapped_own {d : Nat} {s : St} {x : Nat × List Pl} {ps : List Pl} (ht : s.t1 = some x) : ∀ b ∈ (s.swapped x ps).own d, b ∈ (s.withT ps).own d := by
  intro b hb
  rw [St.withT_some ht, own_some (x := (x.1, ps)) rfl]
  rw [own_none (s := s.swapped x ps) rfl] at hb
  exact (((List.sublist_append_right _ _).trans (List.sublist_cons_self _ _)).cons_cons d).mem hb
set_option maxHeartbeats 4000000 in
set_option maxRecDepth 100000 in
theorem step_any {w : World} {d : Nat} {s : St} (h : DAt w d s) (hI : Inv s) (n : Int) (hn : -9223372036854775808 ≤ n ∧ n ≤ 9223372036854775807) :
    Calls Tryd.prog 9 #[.pointer (some ⟨d, 0, none⟩), .int .i64 n] w fun e w' => e = .returned (.tuple #[]) ∧ ∃ s', Trn w w' d s s' ∧ s'.ents.Perm s.ents ∧ s'.n = s.n ∧ s'.shape = stepS n.toNat s.shape := by
  have HT := Lib.hid (Trn.refl h hI)
  have HN := Lib.hid hn
  clear h hI hn
  go_enter Tryd.func9, Tryd.ntmps9
  go_wp2_with fail
  go_loopw [1] (fun i wr => ∃ m s', i = .int .i64 m ∧ Hid (-9223372036854775808 ≤ m ∧ m ≤ 9223372036854775807) ∧ Hid (Trn w wr d s s' ∧ s'.ents.Perm s.ents ∧ s'.n = s.n ∧ stepS m.toNat s'.shape = stepS n.toNat s.shape)) (fun i _ => (intOf i).toNat)
  case atStart => exact ⟨n, s, rfl, HN, Lib.hid ⟨HT.out, List.Perm.refl _, rfl, rfl⟩⟩
  case round =>
    obtain ⟨m, s1, rfl, HM, HT1⟩ := hrel
    have HG := Lib.hid (gone_no HT1.out.1.at')
    have HV := Lib.hid (moves_any HT1.out.1.at')
    by_cases hm : 0 < m
    · rcases s1.t1_cases with ht | ⟨x, ht⟩
      · have HH := Lib.hid ht
        rw [ht] at HV
        clear ht
        go_wp2_with fail
        refine HG.out.mono ?_
        rintro e w' ⟨rfl, rfl⟩
        go_wp2_with fail
        refine HV.out.mono ?_
        rintro e w' ⟨rfl, rfl⟩
        go_wp2_with fail
        first | refine bodyPost_end (results_none rfl _ _ _) rfl ?_ | refine bodyPost_ret (results_none rfl _ _ _) rfl ?_
        exact ⟨rfl, s1, HT1.out.1, HT1.out.2.1, HT1.out.2.2.1, by rw [← HT1.out.2.2.2, shape_none HH.out]⟩
      · have HH := Lib.hid ht
        rw [ht] at HV
        have hDA := HT1.out.1.at'
        have HIN := Lib.hid (HT1.out.1.inv.mvs x ht)
        have c1 : wr.cell? ⟨d, 1, none⟩ = some (.slice (some ⟨s1.a0, 0, none⟩) s1.p0.length s1.p0.length) := by rw [Lib.cell_of_heap hDA.top]; rfl
        have c3 : wr.cell? ⟨d, 3, none⟩ = some (.int .i64 (s1.mv : Int)) := by rw [Lib.cell_of_heap hDA.top]; rfl
        obtain ⟨z, hz⟩ : ∃ z, s1.p0[s1.mv]? = some z := ⟨_, List.getElem?_eq_getElem HIN.out.1⟩
        have hcell : wr.cell? ⟨s1.a0, s1.mv, none⟩ = some (plV z) := by
          rw [Lib.cell_of_heap hDA.tab0.row]
          simp [hz]
        obtain ⟨mo, hmo⟩ : ∃ mo, plV z = .map mo := by cases z <;> exact ⟨_, rfl⟩
        have HMO : Hid (MapO wr mo (mapE (plE z))) := Lib.hid (by
          cases z with
          | none => cases hmo; rfl
          | some y => cases hmo; exact hDA.tab0.map _ (List.mem_of_getElem? hz) y.1 y.2 rfl)
        rw [hmo] at hcell
        have HZ := Lib.hid hz
        have HMOE := Lib.hid hmo
        have hil : (s1.mv : Int) < (s1.p0.length : Int) := by have := HIN.out.1; omega
        clear ht hDA hz hmo
        go_wp2_with fail
        refine HG.out.mono ?_
        rintro e w' ⟨rfl, rfl⟩
        go_wp2_with fail
        refine HV.out.mono ?_
        rintro e w' ⟨rfl, rfl⟩
        go_wp2_with fail
        have hrg := fun (k : Nat) => run_range_s (P := Tryd.prog) (w := wr.drewN k) (mo := mo) (l := mapE (plE z)) Tryd.underlying52 (by cases mo with | none => exact HMO.out | some M => exact (MapAt.same HMO.out rfl))
        refine wp_region_q [0,0,0,0,1,0,0,0,1,0,1,2] (by kernel_rfl) (by kernel_rfl) ?_
        (refine q_pure_n rfl (fun K hK => ?_); go_simp; refine hK _ _ ?_; clear hK K)
        (refine q_pure_n rfl (fun K hK => ?_); go_simp; refine hK _ _ ?_; clear hK K)
        (refine q_pure_n rfl (fun K hK => ?_); go_simp; refine hK _ _ ?_; clear hK K)
        (refine q_pure_n rfl (fun K hK => ?_); go_simp; refine hK _ _ ?_; clear hK K)
        (refine q_read_n rfl (fun K hK => ?_); go_simp; refine hK _ _ ?_; clear hK K)
        (refine q_pure_n rfl (fun K hK => ?_); go_simp; refine hK _ _ ?_; clear hK K)
        (refine q_pure_n rfl (fun K hK => ?_); go_simp; refine hK _ _ ?_; clear hK K)
        (refine q_pure_n rfl (fun K hK => ?_); go_simp; refine hK _ _ ?_; clear hK K)
        (refine q_read_n rfl (fun K hK => ?_); go_simp; refine hK _ _ ?_; clear hK K)
        (refine q_pure_n rfl (fun K hK => ?_); go_simp; refine hK _ _ ?_; clear hK K)
        (refine q_read_n rfl (fun K hK => ?_); go_simp; refine hK _ _ ?_; clear hK K)
        (refine q_write_n rfl (fun K hK => ?_); go_simp; intro nw; obtain ⟨w', hrun, hit, ho⟩ := hrg nw; obtain ⟨w', rfl⟩ : ∃ w5, w' = World.drewN w5 0 := ⟨w', rfl⟩; rw [hrun]; refine ⟨_, ⟨_, rfl⟩, hK _ _ ?_⟩; clear hK K)
        refine q_nil ?_
        intro nq
        have hit2 : IterAt (w'.drewN nq) wr.heap.size mo (mapE (plE z)) (mapE (plE z)) := hit
        have hb2 : Below wr.heap.size wr (w'.drewN nq) := by
          obtain ⟨o, ho⟩ := ho
          have hh : w'.heap = wr.heap.push o := congrArg World.heap ho
          have e1 := congrArg World.os ho
          have e2 := congrArg World.tape ho
          have e3 := congrArg World.output ho
          refine ⟨e1, e2, e3, ?_, fun k hk => ?_⟩
          · show wr.heap.size ≤ w'.heap.size
            rw [hh]; simp
          · show w'.heap[k]? = _
            rw [hh, Array.getElem?_push_lt hk, Array.getElem?_eq_getElem hk]
        obtain ⟨r, hr⟩ : ∃ r, r = wr.heap.size := ⟨_, rfl⟩
        have hsz : r < (w'.drewN nq).heap.size := by rw [hr]; exact hit2.lt
        obtain ⟨w2, hw2⟩ : ∃ w2, w2 = w'.drewN nq := ⟨_, rfl⟩
        rw [← hw2] at hit2 hb2 hsz ⊢
        rw [← hr] at hit2
        go_wp2_with fail
        rw [show (wr.drewN nw).heap.size = r from hr.symm]
        have HMV : Hid (Mvg wr w2 d r s1 x mo (plE z) x.2 (mapE (plE z))) := Lib.hid (by
          have hD := HT1.out.1.at'
          have e1 : s1.withT x.2 = s1 := by rw [St.withT_some HH.out, ← HH.out]
          exact ⟨by rw [e1]; exact hD.below hb2, hit2, List.Perm.refl _, rfl, HT1.out.1.inv.t1 x HH.out, Frm.of_below hb2, fun b hb => .inl (by rw [e1] at hb; exact hb)⟩)
        have HRL : Hid (∀ b ∈ s1.own d, b < r) := Lib.hid (by rw [hr]; exact HT1.out.1.at'.own_lt)
        have HRR := Lib.hid hr
        have HMB : Hid (∀ M, mo = some M → M ∈ blks s1.p0) := Lib.hid (fun M e => by
          have e2 := HMOE.out
          cases z with
          | none => rw [e] at e2; cases e2
          | some y =>
            rw [e] at e2
            injection e2 with e2
            injection e2 with e2
            rw [← e2]
            exact blks_mem (l := y.2) (List.mem_of_getElem? HZ.out))
        clear hit hit2 hb2 hsz hr hw2 ho hrun hrg
        obtain ⟨HWR, hwr⟩ : ∃ HWR, HWR = wr := ⟨_, rfl⟩
        rw [← hwr] at HMV HRR
        have HWRE := Lib.hid hwr
        clear hwr
        go_loopg [4] (mapE (plE z)).length (fun g _ wq => ∃ ps rest, g = rest.length ∧ Hid (Mvg HWR wq d r s1 x mo (plE z) ps rest))
        case atStart => exact ⟨_, _, rfl, HMV⟩
        case round =>
          obtain ⟨ps, rest, hgk, HMV2⟩ := hrel
          have HGK := Lib.hid hgk
          clear hgk
          iterate 2 (first | go_values | go_skip | go_guarded | go_step)
          refine wpList_next_s _ rfl _ rfl r mo (mapE (plE z)) rest rfl HMV2.out.iter ?_ ?_
          · intro hdone
            rw [hdone] at HMV2
            have HT2 := Lib.hid HH.out
            have hDA := HMV2.out.at'
            rw [St.withT_some HH.out] at hDA
            have c1 : wr.cell? ⟨d, 1, none⟩ = some (.slice (some ⟨s1.a0, 0, none⟩) s1.p0.length s1.p0.length) := by rw [Lib.cell_of_heap hDA.top]; rfl
            have c3 : wr.cell? ⟨d, 3, none⟩ = some (.int .i64 (s1.mv : Int)) := by rw [Lib.cell_of_heap hDA.top]; rfl
            have c4 : wr.cell? ⟨s1.a0, s1.mv, none⟩ = some (plV z) := by
              rw [Lib.cell_of_heap hDA.tab0.row]
              simp [HZ.out]
            have hf4 : wr.frozen? ⟨s1.a0, s1.mv, none⟩ = false := Lib.frozen_of_heap hDA.tab0.row _
            have HG0 := Lib.hid (hDA.gone0 (i := s1.mv) (x := (x.1, ps)) rfl)
            have hne : d ≠ s1.a0 := fun e => (List.nodup_cons.1 hDA.apart).1 (by rw [e]; simp)
            clear hdone hDA
            go_wp2_with fail
            refine wp_region_q [0,0,0,0,1,0,0,0,1,0,2] (by kernel_rfl) (by kernel_rfl) ?_
            (refine q_pure_n rfl (fun K hK => ?_); go_simp; refine hK _ _ ?_; clear hK K)
            (refine q_pure_n rfl (fun K hK => ?_); go_simp; refine hK _ _ ?_; clear hK K)
            (refine q_pure_n rfl (fun K hK => ?_); go_simp; refine hK _ _ ?_; clear hK K)
            (refine q_pure_n rfl (fun K hK => ?_); go_simp; refine hK _ _ ?_; clear hK K)
            (refine q_read_n rfl (fun K hK => ?_); go_simp; refine hK _ _ ?_; clear hK K)
            (refine q_pure_n rfl (fun K hK => ?_); go_simp; refine hK _ _ ?_; clear hK K)
            (refine q_pure_n rfl (fun K hK => ?_); go_simp; refine hK _ _ ?_; clear hK K)
            (refine q_pure_n rfl (fun K hK => ?_); go_simp; refine hK _ _ ?_; clear hK K)
            (refine q_read_n rfl (fun K hK => ?_); go_simp; refine hK _ _ ?_; clear hK K)
            (refine q_pure_n rfl (fun K hK => ?_); go_simp; refine hK _ _ ?_; clear hK K)
            (refine q_write_n rfl (fun K hK => ?_); go_simp; refine fun nw => ⟨_, ⟨_, rfl⟩, hK _ _ ?_⟩; clear hK K)
            refine q_nil ?_
            intro nq
            have HF6 : Hid (Frm (fun b => b ∈ s1.own d) HWR ((wr.setCell ⟨s1.a0, s1.mv, none⟩ (.map none)).drewN nq)) := Lib.hid ((HMV2.out.frm.set _ _ (fun _ => by rw [own_some HH.out]; simp)).drewN nq)
            obtain ⟨w6, hw6⟩ : ∃ w6, w6 = ((wr.setCell ⟨s1.a0, s1.mv, none⟩ (.map none)).drewN nq) := ⟨_, rfl⟩
            have HG6 : Hid (DAt w6 d { s1 with p0 := s1.p0.set s1.mv none, t1 := some (x.1, ps) }) := Lib.hid (by rw [hw6]; exact HG0.out.below (below_drewN (Below.refl _ _) nq))
            rw [← hw6] at HF6 ⊢
            have c36 : w6.cell? ⟨d, 3, none⟩ = some (.int .i64 (s1.mv : Int)) := by rw [Lib.cell_of_heap HG6.out.top]; rfl
            have hf36 : w6.frozen? ⟨d, 3, none⟩ = false := Lib.frozen_of_heap HG6.out.top _
            have hw : IntKind.i64.wrap ((s1.mv : Int) + 1) = (s1.mv : Int) + 1 := by
              have h1 := HIN.out.1
              have h2 := HG6.out.len0.2
              simp at h2
              rw [IntKind.wrap_i64]; omega
            clear hw6 c1 c3 c4 hf4 hne
            go_wp2_with fail
            have HF7 : Hid (Frm (fun b => b ∈ s1.own d) HWR (w6.setCell ⟨d, 3, none⟩ (.int .i64 ((s1.mv : Int) + 1)))) := Lib.hid (HF6.out.set _ _ (fun _ => by rw [own_some HH.out]; simp))
            obtain ⟨w7, hw7⟩ : ∃ w7, w7 = w6.setCell ⟨d, 3, none⟩ (.int .i64 ((s1.mv : Int) + 1)) := ⟨_, rfl⟩
            have HG7 : Hid (DAt w7 d (s1.moved x ps)) := Lib.hid (by
              rw [hw7]
              refine HG6.out.top_turn ?_ (fun k hk => set_block_other _ ⟨d, 3, none⟩ _ k hk) rfl rfl rfl
              rw [heap_setCell_same w6 d 3 _ _ _ HG6.out.top]
              rfl)
            rw [← hw7] at HF7 ⊢
            have c37 : w7.cell? ⟨d, 3, none⟩ = some (.int .i64 ((s1.mv : Int) + 1)) := by rw [Lib.cell_of_heap HG7.out.top]; rfl
            have c17 : w7.cell? ⟨d, 1, none⟩ = some (.slice (some ⟨s1.a0, 0, none⟩) s1.p0.length s1.p0.length) := by rw [Lib.cell_of_heap HG7.out.top]; simp [St.cells, St.moved]
            have c27 : w7.cell? ⟨d, 2, none⟩ = some (.slice (some ⟨x.1, 0, none⟩) ps.length ps.length) := by rw [Lib.cell_of_heap HG7.out.top]; rfl
            have hf17 : w7.frozen? ⟨d, 1, none⟩ = false := Lib.frozen_of_heap HG7.out.top _
            have hf27 : w7.frozen? ⟨d, 2, none⟩ = false := Lib.frozen_of_heap HG7.out.top _
            have hf37 : w7.frozen? ⟨d, 3, none⟩ = false := Lib.frozen_of_heap HG7.out.top _
            have HMI := Lib.hid (moved_inv HT1.out.1.inv HH.out HZ.out (ps := ps) (by have := HMV2.out.all; rw [List.append_nil] at this; unfold mapE at this; rw [← List.map_append] at this; exact (mapE_perm this).trans List.perm_append_comm) HMV2.out.len HMV2.out.ok)
            clear hw7 c36 hf36 hw
            have hm1 : IntKind.i64.wrap (m - 1) = m - 1 := by have := HM.out; rw [IntKind.wrap_i64]; omega
            by_cases heq : s1.mv + 1 = s1.p0.length
            · have HEQ := Lib.hid heq
              have hdec : ((s1.mv : Int) + 1 == (s1.p0.length : Int)) = true := by rw [beq_iff_eq]; omega
              clear heq
              refine wp_region_q [0,0,0,1,0,0,0,0,1,0,0] (by kernel_rfl) (by kernel_rfl) ?_
              (refine q_pure_n rfl (fun K hK => ?_); go_simp; refine hK _ _ ?_; clear hK K)
              (refine q_pure_n rfl (fun K hK => ?_); go_simp; refine hK _ _ ?_; clear hK K)
              (refine q_pure_n rfl (fun K hK => ?_); go_simp; refine hK _ _ ?_; clear hK K)
              (refine q_read_n rfl (fun K hK => ?_); go_simp; refine hK _ _ ?_; clear hK K)
              (refine q_pure_n rfl (fun K hK => ?_); go_simp; refine hK _ _ ?_; clear hK K)
              (refine q_pure_n rfl (fun K hK => ?_); go_simp; refine hK _ _ ?_; clear hK K)
              (refine q_pure_n rfl (fun K hK => ?_); go_simp; refine hK _ _ ?_; clear hK K)
              (refine q_pure_n rfl (fun K hK => ?_); go_simp; refine hK _ _ ?_; clear hK K)
              (refine q_read_n rfl (fun K hK => ?_); go_simp; refine hK _ _ ?_; clear hK K)
              (refine q_pure_n rfl (fun K hK => ?_); go_simp; refine hK _ _ ?_; clear hK K)
              (refine q_pure_n rfl (fun K hK => ?_); go_simp; refine hK _ _ ?_; clear hK K)
              refine q_nil ?_
              intro nq
              go_wp2_with fail
              have hop : Frm (fun b => b ∈ s1.own d) HWR ((((w7.setCell ⟨d, 1, none⟩ (.slice (some ⟨x.1, 0, none⟩) ps.length ps.length)).setCell ⟨d, 2, none⟩ (.slice none 0 0)).setCell ⟨d, 3, none⟩ (.int .i64 0)).drewN nq) := by
                have hd : ∀ o : Nat, (⟨d, o, none⟩ : Addr).block < HWR.heap.size → (⟨d, o, none⟩ : Addr).block ∈ s1.own d := fun o _ => by rw [own_some HH.out]; simp
                exact (((HF7.out.set ⟨d, 1, none⟩ _ (hd 1)).set ⟨d, 2, none⟩ _ (hd 2)).set ⟨d, 3, none⟩ _ (hd 3)).drewN nq
              have hDS : DAt ((((w7.setCell ⟨d, 1, none⟩ (.slice (some ⟨x.1, 0, none⟩) ps.length ps.length)).setCell ⟨d, 2, none⟩ (.slice none 0 0)).setCell ⟨d, 3, none⟩ (.int .i64 0))) d (s1.swapped x ps) := by
                refine HG7.out.swap (x := (x.1, ps)) rfl ?_ (fun k hk => ?_)
                · have h1 := heap_setCell_same w7 d 1 _ _ (.slice (some ⟨x.1, 0, none⟩) ps.length ps.length) HG7.out.top
                  have h2 := heap_setCell_same _ d 2 _ _ (.slice none 0 0) h1
                  have h3 := heap_setCell_same _ d 3 _ _ (.int .i64 0) h2
                  rw [h3]
                  rfl
                · rw [set_block_other _ ⟨d, 3, none⟩ _ k hk, set_block_other _ ⟨d, 2, none⟩ _ k hk, set_block_other _ ⟨d, 1, none⟩ _ k hk]
              have hI2 := HMI.out.2.2 HEQ.out
              have hT2 : Trn HWR ((((w7.setCell ⟨d, 1, none⟩ (.slice (some ⟨x.1, 0, none⟩) ps.length ps.length)).setCell ⟨d, 2, none⟩ (.slice none 0 0)).setCell ⟨d, 3, none⟩ (.int .i64 0)).drewN nq) d s1 (s1.swapped x ps) :=
                ⟨hDS.below (below_drewN (Below.refl _ _) nq), hI2.1, rfl, hop, fun b hb => (HMV2.out.own b (swapped_own HH.out b hb)).imp id (fun h => by have := HRR.out; omega)⟩
              rw [HWRE.out] at hT2
              refine ⟨⟨m - 1, s1.swapped x ps, rfl, Lib.hid (by have := HM.out; omega), Lib.hid ⟨HT1.out.1.trans hT2, hI2.2.trans HT1.out.2.1, HT1.out.2.2.1, shape_go hm HT1.out.2.2.2 (shape_swapped HH.out HMV2.out.len HEQ.out)⟩⟩, ?_⟩
              simp only [intOf]; omega
            · have HEQ := Lib.hid heq
              have hdec : ((s1.mv : Int) + 1 == (s1.p0.length : Int)) = false := by rw [beq_eq_false_iff_ne]; omega
              clear heq
              refine wp_region_q [0,0,0,1,0,0,0,0,1,0,0] (by kernel_rfl) (by kernel_rfl) ?_
              (refine q_pure_n rfl (fun K hK => ?_); go_simp; refine hK _ _ ?_; clear hK K)
              (refine q_pure_n rfl (fun K hK => ?_); go_simp; refine hK _ _ ?_; clear hK K)
              (refine q_pure_n rfl (fun K hK => ?_); go_simp; refine hK _ _ ?_; clear hK K)
              (refine q_read_n rfl (fun K hK => ?_); go_simp; refine hK _ _ ?_; clear hK K)
              (refine q_pure_n rfl (fun K hK => ?_); go_simp; refine hK _ _ ?_; clear hK K)
              (refine q_pure_n rfl (fun K hK => ?_); go_simp; refine hK _ _ ?_; clear hK K)
              (refine q_pure_n rfl (fun K hK => ?_); go_simp; refine hK _ _ ?_; clear hK K)
              (refine q_pure_n rfl (fun K hK => ?_); go_simp; refine hK _ _ ?_; clear hK K)
              (refine q_read_n rfl (fun K hK => ?_); go_simp; refine hK _ _ ?_; clear hK K)
              (refine q_pure_n rfl (fun K hK => ?_); go_simp; refine hK _ _ ?_; clear hK K)
              (refine q_pure_n rfl (fun K hK => ?_); go_simp; refine hK _ _ ?_; clear hK K)
              refine q_nil ?_
              intro nq
              go_wp2_with fail
              have hI2 := HMI.out.2.1 (by have := HEQ.out; have := HIN.out.1; omega)
              have hT2 : Trn HWR (w7.drewN nq) d s1 (s1.moved x ps) :=
                ⟨HG7.out.below (below_drewN (Below.refl _ _) nq), hI2, rfl, HF7.out.drewN nq, fun b hb => (HMV2.out.own b (moved_own HH.out b hb)).imp id (fun h => by have := HRR.out; omega)⟩
              rw [HWRE.out] at hT2
              refine ⟨⟨m - 1, s1.moved x ps, rfl, Lib.hid (by have := HM.out; omega), Lib.hid ⟨HT1.out.1.trans hT2, HMI.out.1.trans HT1.out.2.1, HT1.out.2.2.1, shape_go hm HT1.out.2.2.2 (shape_moved HH.out HMV2.out.len HEQ.out)⟩⟩, ?_⟩
              simp only [intOf]; omega
          · rintro ⟨k, vv⟩ rest' wn hp hmem hit hf hen
            obtain ⟨v, e2, hm⟩ := mapE_mem hmem
            have e3 : vv = .int .i64 v := e2
            subst e3
            have HPC := Lib.hid (put_mid HMV2.out HH.out HT1.out.1.inv HZ.out HRR.out.symm HRL.out HMB.out hp hm hit hf)
            have HLT : Hid (rest'.length < gk) := Lib.hid (by have := hp.length_eq; rw [HGK.out]; simp at this; omega)
            clear hp hmem hm hit hf e2
            go_wp2_with fail
            refine HPC.out.mono ?_
            rintro e w2 ⟨rfl, ps', hnew⟩
            have HNW := Lib.hid hnew
            clear hnew
            go_wp2_with fail
            go_roundg rest'.length
            case measure => exact HLT.out
            case rel => exact ⟨ps', rest', rfl, HNW⟩
    · go_wp2_with fail
      first | refine bodyPost_end (results_none rfl _ _ _) rfl ?_ | refine bodyPost_ret (results_none rfl _ _ _) rfl ?_
      exact ⟨rfl, s1, HT1.out.1, HT1.out.2.1, HT1.out.2.2.1, by rw [← HT1.out.2.2.2, show m.toNat = 0 by omega]; rfl⟩
end Go.Proofs.YtnoalklbgncajaaDoor.Dct
