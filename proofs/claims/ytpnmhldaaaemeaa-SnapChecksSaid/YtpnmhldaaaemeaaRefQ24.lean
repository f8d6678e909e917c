/- Chapter 24: the document's sorting of texts: halves, put together. -/
import Derived.Test.YtpnmhldaaaemeaaOrd24
import Derived.Laws.AppendOwn
import Derived.BigQuiet
namespace Go.Proofs.Ytpnmhldaaaemeaa.Snp
open Go.RowKit Go.Proofs.Ytpnmhldaaaemeaa.Pin

/-- texts in a row, with room -/
def SlT (w : World) (B : Nat) (v : Value) (l : List ByteArray) : Prop :=
  ∃ A c, v = .slice A l.length c ∧ l.length ≤ c ∧ (0 < l.length → ∃ r o, A = some ⟨r, o, none⟩ ∧ r < B ∧ ∀ j (h : j < l.length), w.cell? ⟨r, o + j, none⟩ = some (.string l[j]))
theorem SlT.below {w w' : World} {B : Nat} {v : Value} {l : List ByteArray} (h : SlT w B v l) (hb : Below B w w') : SlT w' B v l := by
  obtain ⟨A, c, e, hc, h⟩ := h
  refine ⟨A, c, e, hc, fun h0 => ?_⟩
  obtain ⟨r, o, e1, h1, h2⟩ := h h0
  exact ⟨r, o, e1, h1, fun j hj => (hb.cell (p := ⟨r, _, none⟩) h1).trans (h2 j hj)⟩
theorem SlT.more {w : World} {B B' : Nat} {v : Value} {l : List ByteArray} (h : SlT w B v l) (hB : B ≤ B') : SlT w B' v l := by
  obtain ⟨A, c, e, hc, h⟩ := h
  refine ⟨A, c, e, hc, fun h0 => ?_⟩
  obtain ⟨r, o, e1, h1, h2⟩ := h h0
  exact ⟨r, o, e1, by omega, h2⟩
theorem slt_take {w : World} {B r o c m : Nat} {l : List ByteArray} (hr : r < B) (h : ∀ j (h : j < l.length), w.cell? ⟨r, o + j, none⟩ = some (.string l[j])) (hm : m ≤ l.length) (hc : m ≤ c) : SlT w B (.slice (some ⟨r, o, none⟩) m c) (l.take m) := by
  have e : (l.take m).length = m := by simp; omega
  refine ⟨_, c, by rw [e], by rw [e]; exact hc, fun _ => ⟨r, o, rfl, hr, fun j hj => ?_⟩⟩
  rw [e] at hj
  rw [h j (by omega), List.getElem_take]
theorem slt_drop {w : World} {B r o c m L : Nat} {l : List ByteArray} (hr : r < B) (h : ∀ j (h : j < l.length), w.cell? ⟨r, o + j, none⟩ = some (.string l[j])) (hL : L = l.length) (hc : L ≤ c) : SlT w B (.slice (some ⟨r, o + m, none⟩) (L - m) (c - m)) (l.drop m) := by
  have e : (l.drop m).length = L - m := by simp; omega
  refine ⟨_, c - m, by rw [e], by rw [e]; omega, fun _ => ⟨r, o + m, rfl, hr, fun j hj => ?_⟩⟩
  rw [e] at hj
  have := h (m + j) (by omega)
  rw [← Nat.add_assoc] at this
  rw [this, List.getElem_drop]
theorem slt_tail {w : World} {B c : Nat} {A : Option Addr} {x : ByteArray} {l : List ByteArray} (h : SlT w B (.slice A (l.length + 1) c) (x :: l)) : ∃ r o, A = some ⟨r, o, none⟩ ∧ r < B ∧ w.cell? ⟨r, o, none⟩ = some (.string x) ∧ ∀ n, n = l.length → SlT w B (.slice (if c = 1 then some ⟨r, o, none⟩ else some ⟨r, o + 1, none⟩) n (c - 1)) l := by
  obtain ⟨A', c', e, hc, h⟩ := h
  injection e with e1 e2 e3
  subst e1 e3
  obtain ⟨r, o, rfl, hr, hcl⟩ := h (by simp)
  refine ⟨r, o, rfl, hr, hcl 0 (by simp), fun n hn => ?_⟩
  subst hn
  simp only [List.length_cons] at hc
  by_cases h1 : c = 1
  · rw [if_pos h1]
    refine ⟨_, _, rfl, by omega, fun h0 => by omega⟩
  · rw [if_neg h1]
    refine ⟨_, _, rfl, by omega, fun h0 => ⟨r, o + 1, rfl, hr, fun j hj => ?_⟩⟩
    have := hcl (j + 1) (by simp; omega)
    rw [show o + (j + 1) = o + 1 + j by omega] at this
    rw [this]
    rfl
def lenOf : Value → Nat
  | .slice _ n _ => n
  | _ => 0
theorem slt_own {w : World} {b : Nat} {v : Value} {out : List ByteArray} (h : w.ownsRow b 9 1 v out.length (out.map Value.string)) : SlT w w.heap.size v out := by
  rcases h.2 with ⟨rfl, h0⟩ | ⟨g, cap, cur, rfl, hbg, hg, hnc, hcm, hcs, htake⟩
  · have h0' : out = [] := by
      cases out with
      | nil => rfl
      | cons x out => simp at h0
    subst h0'
    exact ⟨_, _, rfl, Nat.le_refl _, fun h => absurd h (by simp)⟩
  · have hcells := h.cells (g := g) rfl
    refine ⟨_, _, rfl, hnc, fun _ => ⟨g, 0, rfl, (Array.getElem?_eq_some_iff.1 hg).1, fun j hj => ?_⟩⟩
    have := hcells j (.string out[j]) (by simp [hj])
    cases j with
    | zero => simpa [Addr.add] using this
    | succ j => simpa [Addr.add] using this
theorem grown_to {B : Nat} {w w1 w2 : World} {row : Option Nat} (h1 : Below B w w1) (hg : w1.grownBy w2 row) (hr : ∀ b, row = some b → B ≤ b) (hB : B ≤ w.heap.size) : Below B w w2 :=
  ⟨hg.os.trans h1.os, hg.tape.trans h1.tape, hg.output.trans h1.output, Nat.le_trans h1.size hg.size, fun b hb => (hg.block b (by have := h1.size; omega) (fun e => absurd (hr b e.symm) (by omega))).trans (h1.block b hb)⟩
theorem info_text : (Try.prog.info? 9).map (fun i => (i.zero, i.size, i.bytes)) = some (some (.string ⟨#[]⟩), 1, 16) := by kernel_rfl
/-- what the sorting leaves -/
def Sorts (w : World) (l : List ByteArray) (e : Ending) (w' : World) : Prop := ∃ rv l', e = .returned rv ∧ SlT w' w'.heap.size rv l' ∧ l'.Perm l ∧ SrtP l' ∧ Below w.heap.size w w'
set_option maxHeartbeats 4000000 in
set_option maxRecDepth 100000 in
theorem ref_sorted : ∀ (n : Nat) (l : List ByteArray) (v : Value) (w : World), l.length ≤ n → SlT w w.heap.size v l → l.length ≤ 1048576 → Calls Try.prog 114 #[v] w (Sorts w l)
  | n, l, v, w, hn, hT, hl => by
    by_cases h2 : l.length < 2
    · have hT2 := Lib.hid hT
      obtain ⟨A, c, rfl, hc, hT⟩ := hT
      obtain ⟨L, hL⟩ : ∃ L, L = l.length := ⟨_, rfl⟩
      rw [← hL] at h2 hT2
      have HL := Lib.hid hL
      rw [← hL] 
      clear hT hc hl hn hL
      have h2' : (L : Int) < 2 := by omega
      go_enter Try.func114, Try.ntmps114
      go_wp2_with fail
      go_ret
      refine ⟨_, l, rfl, hT2.out, List.Perm.refl l, ?_, Below.refl _ _⟩
      have := HL.out
      match l, this with
      | [], _ => exact List.Pairwise.nil
      | [x], _ => simp [SrtP]
      | x :: y :: l, this => simp at this; omega
    · match n, hn with
      | 0, hn => omega
      | n + 1, hn =>
        have IH := Lib.hid (ref_sorted n)
        obtain ⟨i0, hi, hz0, hz1, hz2⟩ := info_parts info_text
        have HI := Lib.hid hi
        have HZ0 := Lib.hid hz0
        have HZ1 := Lib.hid hz1
        have HZ2 := Lib.hid hz2
        clear hi hz0 hz1 hz2
        obtain ⟨A, c, rfl, hc, hT⟩ := hT
        obtain ⟨L, hL⟩ : ∃ L, L = l.length := ⟨_, rfl⟩
        rw [← hL] at h2 hc hl hn
        rw [← hL]
        have HL := Lib.hid hL
        obtain ⟨r, o, rfl, hr, hcl⟩ := hT (by omega)
        have HC := Lib.hid hcl
        clear hT hcl hL
        have h2' : ¬ (L : Int) < 2 := by omega
        have hc0 : ¬ c = 0 := by omega
        have hc1 : ¬ c = L / 2 := by omega
        go_enter Try.func114, Try.ntmps114
        go_wp2_with fail
        refine (IH.out (l.take (L / 2)) _ _ (by have := HL.out; simp; omega) (slt_take hr HC.out (by have := HL.out; omega) (by omega)) (by have := HL.out; simp; omega)).mono ?_
        rintro e w1 ⟨va, la, rfl, ha1, ha2, ha3, ha4⟩
        have HA1 := Lib.hid ha1
        have HA2 := Lib.hid ha2
        have HA3 := Lib.hid ha3
        have HA4 := Lib.hid ha4
        obtain ⟨Aa, ca, rfl, _⟩ := ha1
        clear ha2 ha3 ha4
        go_wp2_with fail
        refine (IH.out (l.drop (L / 2)) _ _ (by have := HL.out; simp; omega) (slt_drop (by have := HA4.out.size; omega) (fun j hj => (HA4.out.cell (p := ⟨r, _, none⟩) hr).trans (HC.out j hj)) HL.out (by omega)) (by have := HL.out; simp; omega)).mono ?_
        rintro e w2 ⟨vb, lb, rfl, hb1, hb2, hb3, hb4⟩
        have HB1 := Lib.hid hb1
        have HB4 : Hid (Below w.heap.size w w2) := Lib.hid (HA4.out.trans (hb4.mono HA4.out.size))
        have HA5 : Hid (SlT w2 w2.heap.size (.slice Aa la.length ca) la) := Lib.hid ((HA1.out.below hb4).more hb4.size)
        have HM0 : Hid (Mrg l [] la lb) := Lib.hid (Mrg.init ((HA2.out.append hb2).trans (by rw [List.take_append_drop])) HA3.out hb3)
        obtain ⟨Ab, cb, rfl, _⟩ := hb1
        clear hb2 hb3 hb4
        go_wp2_with fail
        obtain ⟨H0, hH0⟩ : ∃ H0, H0 = w2.heap.size := ⟨_, rfl⟩
        have H2S := Lib.hid hH0
        rw [← hH0] at HB1 HA5
        clear hH0
        go_loopw [3, 4, 5] (fun sa sb so wr => ∃ (a b out : List ByteArray) (Aa : Option Addr) (ca : Nat) (Ab : Option Addr) (cb : Nat), sa = .slice Aa a.length ca ∧ sb = .slice Ab b.length cb ∧ Hid (SlT wr H0 sa a) ∧ Hid (SlT wr H0 sb b) ∧ Hid (wr.ownsRow H0 9 1 so out.length (out.map Value.string)) ∧ Hid (Mrg l out a b) ∧ Hid (Below H0 w2 wr)) (fun sa sb _ _ => lenOf sa + lenOf sb)
        case atStart => exact ⟨la, lb, [], _, _, _, _, rfl, rfl, HA5, HB1, Lib.hid (World.ownsRow_nil _ _ _ _), HM0, Lib.hid (Below.refl _ _)⟩
        case round =>
          obtain ⟨a, b, out, Aa, ca, Ab, cb, rfl, rfl, HSA, HSB, HO, HG, HW⟩ := hrel
          have HN : Hid (out.length + (a.length + b.length) ≤ 1048576) := Lib.hid (by have h1 := HG.out.perm.length_eq; have := HL.out; simp only [List.length_append] at h1; omega)
          clear HA1 HA2 HA3 HA4 HA5 HM0 HB1
          cases a with
          | nil =>
            cases b with
            | nil =>
              have hz : (Int.ofNat 0 == 0) = true := rfl
              go_wp2_with fail
              go_ret
              exact ⟨_, out, rfl, slt_own HO.out, HG.out.done.1, HG.out.done.2, HB4.out.trans (HW.out.mono (by have := HB4.out.size; have := H2S.out; omega))⟩
            | cons y b =>
              obtain ⟨rb, ob, rfl, hrb, hy, htb⟩ := slt_tail HSB.out
              have HTB := Lib.hid htb
              clear htb
              obtain ⟨bN, hbN⟩ : ∃ bN, bN = b.length + 1 := ⟨_, rfl⟩
              have HBN := Lib.hid hbN
              rw [List.length_cons, ← hbN]
              have hb0 : ((bN : Int) == 0) = false := by
                cases hq : ((bN : Int) == 0) with
                | false => rfl
                | true => have := eq_of_beq hq; omega
              have hb1 : (0 : Int) < (bN : Int) := by omega
              have hb2 : decide ((0 : Int) < (bN : Int)) = true := decide_eq_true hb1
              have hb3 : ¬ bN = 0 := by omega
              have hb4 : 0 < bN := by omega
              clear hbN
              go_wp2_with fail
              refine wp_region_q [0,0,0,0,0,0,0,0,0,0,1,0,0,1,0,0,0] (by kernel_rfl) (by kernel_rfl) ?_
              (refine q_pure_n rfl (fun K hK => ?_); go_simp; refine hK _ _ ?_; clear hK K)
              (refine q_pure_n rfl (fun K hK => ?_); go_simp; refine hK _ _ ?_; clear hK K)
              (refine q_pure_n rfl (fun K hK => ?_); go_simp; refine hK _ _ ?_; clear hK K)
              (refine q_pure_n rfl (fun K hK => ?_); go_simp; refine hK _ _ ?_; clear hK K)
              first | (refine q_pure_x rfl ?hy (fun K hK => ?_); (case hy => rfl); go_simp; refine hK _ _ ?_; clear hK K) | (refine q_pure_u rfl ?hy (fun K hK => ?_); (case hy => rfl); go_simp; refine hK _ _ ?_; clear hK K) | (refine q_pure_y rfl ?hy (fun K hK => ?_); (case hy => rfl); go_simp; refine hK _ _ ?_; clear hK K)
              first | (refine q_pure_x rfl ?hy (fun K hK => ?_); (case hy => rfl); go_simp; refine hK _ _ ?_; clear hK K) | (refine q_pure_u rfl ?hy (fun K hK => ?_); (case hy => rfl); go_simp; refine hK _ _ ?_; clear hK K) | (refine q_pure_y rfl ?hy (fun K hK => ?_); (case hy => rfl); go_simp; refine hK _ _ ?_; clear hK K)
              first | (refine q_pure_x rfl ?hy (fun K hK => ?_); (case hy => rfl); go_simp; refine hK _ _ ?_; clear hK K) | (refine q_pure_u rfl ?hy (fun K hK => ?_); (case hy => rfl); go_simp; refine hK _ _ ?_; clear hK K) | (refine q_pure_y rfl ?hy (fun K hK => ?_); (case hy => rfl); go_simp; refine hK _ _ ?_; clear hK K)
              first | (refine q_pure_x rfl ?hy (fun K hK => ?_); (case hy => rfl); go_simp; refine hK _ _ ?_; clear hK K) | (refine q_pure_u rfl ?hy (fun K hK => ?_); (case hy => rfl); go_simp; refine hK _ _ ?_; clear hK K) | (refine q_pure_y rfl ?hy (fun K hK => ?_); (case hy => rfl); go_simp; refine hK _ _ ?_; clear hK K)
              first | (refine q_pure_x rfl ?hy (fun K hK => ?_); (case hy => rfl); go_simp; refine hK _ _ ?_; clear hK K) | (refine q_pure_u rfl ?hy (fun K hK => ?_); (case hy => rfl); go_simp; refine hK _ _ ?_; clear hK K) | (refine q_pure_y rfl ?hy (fun K hK => ?_); (case hy => rfl); go_simp; refine hK _ _ ?_; clear hK K)
              first | (refine q_pure_x rfl ?hy (fun K hK => ?_); (case hy => rfl); go_simp; refine hK _ _ ?_; clear hK K) | (refine q_pure_u rfl ?hy (fun K hK => ?_); (case hy => rfl); go_simp; refine hK _ _ ?_; clear hK K) | (refine q_pure_y rfl ?hy (fun K hK => ?_); (case hy => rfl); go_simp; refine hK _ _ ?_; clear hK K)
              first | (refine q_read_x rfl ?hy (fun K hK => ?_); (case hy => rfl); go_simp; refine hK _ _ ?_; clear hK K) | (refine q_read_u rfl ?hy (fun K hK => ?_); (case hy => rfl); go_simp; refine hK _ _ ?_; clear hK K) | (refine q_read_y rfl ?hy (fun K hK => ?_); (case hy => rfl); go_simp; refine hK _ _ ?_; clear hK K)
              first | (refine q_pure_x rfl ?hy (fun K hK => ?_); (case hy => rfl); go_simp; refine hK _ _ ?_; clear hK K) | (refine q_pure_u rfl ?hy (fun K hK => ?_); (case hy => rfl); go_simp; refine hK _ _ ?_; clear hK K) | (refine q_pure_y rfl ?hy (fun K hK => ?_); (case hy => rfl); go_simp; refine hK _ _ ?_; clear hK K)
              first | (refine q_pure_x rfl ?hy (fun K hK => ?_); (case hy => rfl); go_simp; refine hK _ _ ?_; clear hK K) | (refine q_pure_u rfl ?hy (fun K hK => ?_); (case hy => rfl); go_simp; refine hK _ _ ?_; clear hK K) | (refine q_pure_y rfl ?hy (fun K hK => ?_); (case hy => rfl); go_simp; refine hK _ _ ?_; clear hK K)
              first | (refine q_read_x rfl ?hy (fun K hK => ?_); (case hy => rfl); go_simp; refine hK _ _ ?_; clear hK K) | (refine q_read_u rfl ?hy (fun K hK => ?_); (case hy => rfl); go_simp; refine hK _ _ ?_; clear hK K) | (refine q_read_y rfl ?hy (fun K hK => ?_); (case hy => rfl); go_simp; refine hK _ _ ?_; clear hK K)
              first | (refine q_pure_x rfl ?hy (fun K hK => ?_); (case hy => rfl); go_simp; refine hK _ _ ?_; clear hK K) | (refine q_pure_u rfl ?hy (fun K hK => ?_); (case hy => rfl); go_simp; refine hK _ _ ?_; clear hK K) | (refine q_pure_y rfl ?hy (fun K hK => ?_); (case hy => rfl); go_simp; refine hK _ _ ?_; clear hK K)
              first | (refine q_pure_x rfl ?hy (fun K hK => ?_); (case hy => rfl); go_simp; refine hK _ _ ?_; clear hK K) | (refine q_pure_u rfl ?hy (fun K hK => ?_); (case hy => rfl); go_simp; refine hK _ _ ?_; clear hK K) | (refine q_pure_y rfl ?hy (fun K hK => ?_); (case hy => rfl); go_simp; refine hK _ _ ?_; clear hK K)
              (refine q_pure_n rfl (fun K hK => ?_); go_simp; refine hK _ _ ?_; clear hK K)
              refine q_nil ?_
              intro nq
              go_wp2_with (at_builtin; refine wpList_append_own _ rfl _ _ 23 rfl H0 9 i0 (.string ⟨#[]⟩) 1 16 Try.underlying23 HI.out HZ0.out HZ1.out HZ2.out rfl (by decide) _ _ _ rfl (World.ownsRow.alloc (show (wr.drewN nq).ownsRow H0 9 1 _ out.length (out.map Value.string) from HO.out) _) ⟨wr.heap.size, 0, none⟩ 1 1 [.string y] rfl rfl ?c1 ?c2 ?c3 ?c4 ?c5 ?_)
              case c1 =>
                intro j u hj
                have h0 : j = 0 := by
                  match j, hj with
                  | 0, _ => rfl
                  | j + 1, hj => simp at hj
                subst h0
                simp at hj
                subst hj
                go_simp
              case c2 => simp [Value.oneCell']
              case c3 => have := HN.out; unfold maxLen; omega
              case c4 => have := HN.out; omega
              case c5 => have := HW.out.size; have := H2S.out; simp; show _ ≤ wr.heap.size + 1; omega
              intro v' w4 hown4 hgrow4 _
              have HO4 : Hid (w4.ownsRow H0 9 1 v' (out ++ [y]).length ((out ++ [y]).map Value.string)) := Lib.hid (by simpa using hown4)
              have HW4 : Hid (Below H0 w2 w4) := Lib.hid (grown_to ((below_drewN HW.out nq).alloc (show H0 ≤ wr.heap.size by have := HW.out.size; have := H2S.out; omega) _) hgrow4 (fun b e => (HO.out.lt b e).1) (Nat.le_of_eq H2S.out))
              have HGR := Lib.hid hgrow4
              clear hown4 hgrow4
              go_wp2_with fail
              have HX : Below H0 wr w4 := grown_to (((below_drewN (Below.refl _ wr) nq).alloc (show H0 ≤ wr.heap.size by have := HW.out.size; have := H2S.out; omega) _)) HGR.out (fun b e => (HO.out.lt b e).1) (by have := HW.out.size; have := H2S.out; omega)
              refine ⟨⟨[], b, out ++ [y], _, _, _, _, rfl, by rw [show b.length = bN - 1 by have := HBN.out; omega], Lib.hid ?_, Lib.hid ?_, HO4, Lib.hid ?_, HW4⟩, ?_⟩
              · exact (HSA.out.below HX)
              · exact ((HTB.out _ (by have := HBN.out; omega)).below HX)
              · exact HG.out.right (by intro z hz; cases hz)
              · simp [lenOf]; omega
          | cons x a =>
            obtain ⟨ra, oa, rfl, hra, hx, hta⟩ := slt_tail HSA.out
            have HTA := Lib.hid hta
            clear hta
            obtain ⟨aN, haN⟩ : ∃ aN, aN = a.length + 1 := ⟨_, rfl⟩
            have HAN := Lib.hid haN
            rw [List.length_cons, ← haN]
            have ha0 : ((aN : Int) == 0) = false := by
              cases hq : ((aN : Int) == 0) with
              | false => rfl
              | true => have := eq_of_beq hq; omega
            have ha1 : (0 : Int) < (aN : Int) := by omega
            have ha2 : decide ((0 : Int) < (aN : Int)) = true := decide_eq_true ha1
            have ha3 : ¬ aN = 0 := by omega
            have ha4 : 0 < aN := by omega
            clear haN
            cases b with
            | nil =>
              go_wp2_with fail
              refine wp_region_q [0,0,0,0,0,0,0,0,0,0,1,0,0,1,0,0,0] (by kernel_rfl) (by kernel_rfl) ?_
              (refine q_pure_n rfl (fun K hK => ?_); go_simp; refine hK _ _ ?_; clear hK K)
              (refine q_pure_n rfl (fun K hK => ?_); go_simp; refine hK _ _ ?_; clear hK K)
              (refine q_pure_n rfl (fun K hK => ?_); go_simp; refine hK _ _ ?_; clear hK K)
              (refine q_pure_n rfl (fun K hK => ?_); go_simp; refine hK _ _ ?_; clear hK K)
              first | (refine q_pure_x rfl ?hy (fun K hK => ?_); (case hy => rfl); go_simp; refine hK _ _ ?_; clear hK K) | (refine q_pure_u rfl ?hy (fun K hK => ?_); (case hy => rfl); go_simp; refine hK _ _ ?_; clear hK K) | (refine q_pure_y rfl ?hy (fun K hK => ?_); (case hy => rfl); go_simp; refine hK _ _ ?_; clear hK K)
              first | (refine q_pure_x rfl ?hy (fun K hK => ?_); (case hy => rfl); go_simp; refine hK _ _ ?_; clear hK K) | (refine q_pure_u rfl ?hy (fun K hK => ?_); (case hy => rfl); go_simp; refine hK _ _ ?_; clear hK K) | (refine q_pure_y rfl ?hy (fun K hK => ?_); (case hy => rfl); go_simp; refine hK _ _ ?_; clear hK K)
              first | (refine q_pure_x rfl ?hy (fun K hK => ?_); (case hy => rfl); go_simp; refine hK _ _ ?_; clear hK K) | (refine q_pure_u rfl ?hy (fun K hK => ?_); (case hy => rfl); go_simp; refine hK _ _ ?_; clear hK K) | (refine q_pure_y rfl ?hy (fun K hK => ?_); (case hy => rfl); go_simp; refine hK _ _ ?_; clear hK K)
              first | (refine q_pure_x rfl ?hy (fun K hK => ?_); (case hy => rfl); go_simp; refine hK _ _ ?_; clear hK K) | (refine q_pure_u rfl ?hy (fun K hK => ?_); (case hy => rfl); go_simp; refine hK _ _ ?_; clear hK K) | (refine q_pure_y rfl ?hy (fun K hK => ?_); (case hy => rfl); go_simp; refine hK _ _ ?_; clear hK K)
              first | (refine q_pure_x rfl ?hy (fun K hK => ?_); (case hy => rfl); go_simp; refine hK _ _ ?_; clear hK K) | (refine q_pure_u rfl ?hy (fun K hK => ?_); (case hy => rfl); go_simp; refine hK _ _ ?_; clear hK K) | (refine q_pure_y rfl ?hy (fun K hK => ?_); (case hy => rfl); go_simp; refine hK _ _ ?_; clear hK K)
              first | (refine q_pure_x rfl ?hy (fun K hK => ?_); (case hy => rfl); go_simp; refine hK _ _ ?_; clear hK K) | (refine q_pure_u rfl ?hy (fun K hK => ?_); (case hy => rfl); go_simp; refine hK _ _ ?_; clear hK K) | (refine q_pure_y rfl ?hy (fun K hK => ?_); (case hy => rfl); go_simp; refine hK _ _ ?_; clear hK K)
              first | (refine q_read_x rfl ?hy (fun K hK => ?_); (case hy => rfl); go_simp; refine hK _ _ ?_; clear hK K) | (refine q_read_u rfl ?hy (fun K hK => ?_); (case hy => rfl); go_simp; refine hK _ _ ?_; clear hK K) | (refine q_read_y rfl ?hy (fun K hK => ?_); (case hy => rfl); go_simp; refine hK _ _ ?_; clear hK K)
              first | (refine q_pure_x rfl ?hy (fun K hK => ?_); (case hy => rfl); go_simp; refine hK _ _ ?_; clear hK K) | (refine q_pure_u rfl ?hy (fun K hK => ?_); (case hy => rfl); go_simp; refine hK _ _ ?_; clear hK K) | (refine q_pure_y rfl ?hy (fun K hK => ?_); (case hy => rfl); go_simp; refine hK _ _ ?_; clear hK K)
              first | (refine q_pure_x rfl ?hy (fun K hK => ?_); (case hy => rfl); go_simp; refine hK _ _ ?_; clear hK K) | (refine q_pure_u rfl ?hy (fun K hK => ?_); (case hy => rfl); go_simp; refine hK _ _ ?_; clear hK K) | (refine q_pure_y rfl ?hy (fun K hK => ?_); (case hy => rfl); go_simp; refine hK _ _ ?_; clear hK K)
              first | (refine q_read_x rfl ?hy (fun K hK => ?_); (case hy => rfl); go_simp; refine hK _ _ ?_; clear hK K) | (refine q_read_u rfl ?hy (fun K hK => ?_); (case hy => rfl); go_simp; refine hK _ _ ?_; clear hK K) | (refine q_read_y rfl ?hy (fun K hK => ?_); (case hy => rfl); go_simp; refine hK _ _ ?_; clear hK K)
              first | (refine q_pure_x rfl ?hy (fun K hK => ?_); (case hy => rfl); go_simp; refine hK _ _ ?_; clear hK K) | (refine q_pure_u rfl ?hy (fun K hK => ?_); (case hy => rfl); go_simp; refine hK _ _ ?_; clear hK K) | (refine q_pure_y rfl ?hy (fun K hK => ?_); (case hy => rfl); go_simp; refine hK _ _ ?_; clear hK K)
              first | (refine q_pure_x rfl ?hy (fun K hK => ?_); (case hy => rfl); go_simp; refine hK _ _ ?_; clear hK K) | (refine q_pure_u rfl ?hy (fun K hK => ?_); (case hy => rfl); go_simp; refine hK _ _ ?_; clear hK K) | (refine q_pure_y rfl ?hy (fun K hK => ?_); (case hy => rfl); go_simp; refine hK _ _ ?_; clear hK K)
              (refine q_pure_n rfl (fun K hK => ?_); go_simp; refine hK _ _ ?_; clear hK K)
              refine q_nil ?_
              intro nq
              go_wp2_with (at_builtin; refine wpList_append_own _ rfl _ _ 23 rfl H0 9 i0 (.string ⟨#[]⟩) 1 16 Try.underlying23 HI.out HZ0.out HZ1.out HZ2.out rfl (by decide) _ _ _ rfl (World.ownsRow.alloc (show (wr.drewN nq).ownsRow H0 9 1 _ out.length (out.map Value.string) from HO.out) _) ⟨wr.heap.size, 0, none⟩ 1 1 [.string x] rfl rfl ?c1 ?c2 ?c3 ?c4 ?c5 ?_)
              case c1 =>
                intro j u hj
                have h0 : j = 0 := by
                  match j, hj with
                  | 0, _ => rfl
                  | j + 1, hj => simp at hj
                subst h0
                simp at hj
                subst hj
                go_simp
              case c2 => simp [Value.oneCell']
              case c3 => have := HN.out; unfold maxLen; omega
              case c4 => have := HN.out; omega
              case c5 => have := HW.out.size; have := H2S.out; simp; show _ ≤ wr.heap.size + 1; omega
              intro v' w4 hown4 hgrow4 _
              have HO4 : Hid (w4.ownsRow H0 9 1 v' (out ++ [x]).length ((out ++ [x]).map Value.string)) := Lib.hid (by simpa using hown4)
              have HW4 : Hid (Below H0 w2 w4) := Lib.hid (grown_to ((below_drewN HW.out nq).alloc (show H0 ≤ wr.heap.size by have := HW.out.size; have := H2S.out; omega) _) hgrow4 (fun b e => (HO.out.lt b e).1) (Nat.le_of_eq H2S.out))
              have HGR := Lib.hid hgrow4
              clear hown4 hgrow4
              go_wp2_with fail
              have HX : Below H0 wr w4 := grown_to (((below_drewN (Below.refl _ wr) nq).alloc (show H0 ≤ wr.heap.size by have := HW.out.size; have := H2S.out; omega) _)) HGR.out (fun b e => (HO.out.lt b e).1) (by have := HW.out.size; have := H2S.out; omega)
              refine ⟨⟨a, [], out ++ [x], _, _, _, _, by rw [show a.length = aN - 1 by have := HAN.out; omega], rfl, Lib.hid ?_, Lib.hid ?_, HO4, Lib.hid ?_, HW4⟩, ?_⟩
              · exact ((HTA.out _ (by have := HAN.out; omega)).below HX)
              · exact (HSB.out.below HX)
              · exact HG.out.left (by intro z hz; cases hz)
              · simp [lenOf]; omega
            | cons y b =>
              obtain ⟨rb, ob, rfl, hrb, hy, htb⟩ := slt_tail HSB.out
              have HTB := Lib.hid htb
              clear htb
              obtain ⟨bN, hbN⟩ : ∃ bN, bN = b.length + 1 := ⟨_, rfl⟩
              have HBN := Lib.hid hbN
              rw [List.length_cons, ← hbN]
              have hb0 : ((bN : Int) == 0) = false := by
                cases hq : ((bN : Int) == 0) with
                | false => rfl
                | true => have := eq_of_beq hq; omega
              have hb1 : (0 : Int) < (bN : Int) := by omega
              have hb2 : decide ((0 : Int) < (bN : Int)) = true := decide_eq_true hb1
              have hb3 : ¬ bN = 0 := by omega
              have hb4 : 0 < bN := by omega
              clear hbN
              by_cases hxy : LeS x y
              · have hq := (les_bool x y).trans (pb_true hxy)
                have HXY := Lib.hid hxy
                clear hxy
                go_wp2_with fail
                refine wp_region_q [0,0,0,0,0,0,0,0,0,0,1,0,0,1,0,0,0] (by kernel_rfl) (by kernel_rfl) ?_
                (refine q_pure_n rfl (fun K hK => ?_); go_simp; refine hK _ _ ?_; clear hK K)
                (refine q_pure_n rfl (fun K hK => ?_); go_simp; refine hK _ _ ?_; clear hK K)
                (refine q_pure_n rfl (fun K hK => ?_); go_simp; refine hK _ _ ?_; clear hK K)
                (refine q_pure_n rfl (fun K hK => ?_); go_simp; refine hK _ _ ?_; clear hK K)
                first | (refine q_pure_x rfl ?hy (fun K hK => ?_); (case hy => rfl); go_simp; refine hK _ _ ?_; clear hK K) | (refine q_pure_u rfl ?hy (fun K hK => ?_); (case hy => rfl); go_simp; refine hK _ _ ?_; clear hK K) | (refine q_pure_y rfl ?hy (fun K hK => ?_); (case hy => rfl); go_simp; refine hK _ _ ?_; clear hK K)
                first | (refine q_pure_x rfl ?hy (fun K hK => ?_); (case hy => rfl); go_simp; refine hK _ _ ?_; clear hK K) | (refine q_pure_u rfl ?hy (fun K hK => ?_); (case hy => rfl); go_simp; refine hK _ _ ?_; clear hK K) | (refine q_pure_y rfl ?hy (fun K hK => ?_); (case hy => rfl); go_simp; refine hK _ _ ?_; clear hK K)
                first | (refine q_pure_x rfl ?hy (fun K hK => ?_); (case hy => rfl); go_simp; refine hK _ _ ?_; clear hK K) | (refine q_pure_u rfl ?hy (fun K hK => ?_); (case hy => rfl); go_simp; refine hK _ _ ?_; clear hK K) | (refine q_pure_y rfl ?hy (fun K hK => ?_); (case hy => rfl); go_simp; refine hK _ _ ?_; clear hK K)
                first | (refine q_pure_x rfl ?hy (fun K hK => ?_); (case hy => rfl); go_simp; refine hK _ _ ?_; clear hK K) | (refine q_pure_u rfl ?hy (fun K hK => ?_); (case hy => rfl); go_simp; refine hK _ _ ?_; clear hK K) | (refine q_pure_y rfl ?hy (fun K hK => ?_); (case hy => rfl); go_simp; refine hK _ _ ?_; clear hK K)
                first | (refine q_pure_x rfl ?hy (fun K hK => ?_); (case hy => rfl); go_simp; refine hK _ _ ?_; clear hK K) | (refine q_pure_u rfl ?hy (fun K hK => ?_); (case hy => rfl); go_simp; refine hK _ _ ?_; clear hK K) | (refine q_pure_y rfl ?hy (fun K hK => ?_); (case hy => rfl); go_simp; refine hK _ _ ?_; clear hK K)
                first | (refine q_pure_x rfl ?hy (fun K hK => ?_); (case hy => rfl); go_simp; refine hK _ _ ?_; clear hK K) | (refine q_pure_u rfl ?hy (fun K hK => ?_); (case hy => rfl); go_simp; refine hK _ _ ?_; clear hK K) | (refine q_pure_y rfl ?hy (fun K hK => ?_); (case hy => rfl); go_simp; refine hK _ _ ?_; clear hK K)
                first | (refine q_read_x rfl ?hy (fun K hK => ?_); (case hy => rfl); go_simp; refine hK _ _ ?_; clear hK K) | (refine q_read_u rfl ?hy (fun K hK => ?_); (case hy => rfl); go_simp; refine hK _ _ ?_; clear hK K) | (refine q_read_y rfl ?hy (fun K hK => ?_); (case hy => rfl); go_simp; refine hK _ _ ?_; clear hK K)
                first | (refine q_pure_x rfl ?hy (fun K hK => ?_); (case hy => rfl); go_simp; refine hK _ _ ?_; clear hK K) | (refine q_pure_u rfl ?hy (fun K hK => ?_); (case hy => rfl); go_simp; refine hK _ _ ?_; clear hK K) | (refine q_pure_y rfl ?hy (fun K hK => ?_); (case hy => rfl); go_simp; refine hK _ _ ?_; clear hK K)
                first | (refine q_pure_x rfl ?hy (fun K hK => ?_); (case hy => rfl); go_simp; refine hK _ _ ?_; clear hK K) | (refine q_pure_u rfl ?hy (fun K hK => ?_); (case hy => rfl); go_simp; refine hK _ _ ?_; clear hK K) | (refine q_pure_y rfl ?hy (fun K hK => ?_); (case hy => rfl); go_simp; refine hK _ _ ?_; clear hK K)
                first | (refine q_read_x rfl ?hy (fun K hK => ?_); (case hy => rfl); go_simp; refine hK _ _ ?_; clear hK K) | (refine q_read_u rfl ?hy (fun K hK => ?_); (case hy => rfl); go_simp; refine hK _ _ ?_; clear hK K) | (refine q_read_y rfl ?hy (fun K hK => ?_); (case hy => rfl); go_simp; refine hK _ _ ?_; clear hK K)
                first | (refine q_pure_x rfl ?hy (fun K hK => ?_); (case hy => rfl); go_simp; refine hK _ _ ?_; clear hK K) | (refine q_pure_u rfl ?hy (fun K hK => ?_); (case hy => rfl); go_simp; refine hK _ _ ?_; clear hK K) | (refine q_pure_y rfl ?hy (fun K hK => ?_); (case hy => rfl); go_simp; refine hK _ _ ?_; clear hK K)
                first | (refine q_pure_x rfl ?hy (fun K hK => ?_); (case hy => rfl); go_simp; refine hK _ _ ?_; clear hK K) | (refine q_pure_u rfl ?hy (fun K hK => ?_); (case hy => rfl); go_simp; refine hK _ _ ?_; clear hK K) | (refine q_pure_y rfl ?hy (fun K hK => ?_); (case hy => rfl); go_simp; refine hK _ _ ?_; clear hK K)
                (refine q_pure_n rfl (fun K hK => ?_); go_simp; refine hK _ _ ?_; clear hK K)
                refine q_nil ?_
                intro nq
                go_wp2_with (at_builtin; refine wpList_append_own _ rfl _ _ 23 rfl H0 9 i0 (.string ⟨#[]⟩) 1 16 Try.underlying23 HI.out HZ0.out HZ1.out HZ2.out rfl (by decide) _ _ _ rfl (World.ownsRow.alloc (show (wr.drewN nq).ownsRow H0 9 1 _ out.length (out.map Value.string) from HO.out) _) ⟨wr.heap.size, 0, none⟩ 1 1 [.string x] rfl rfl ?c1 ?c2 ?c3 ?c4 ?c5 ?_)
                case c1 =>
                  intro j u hj
                  have h0 : j = 0 := by
                    match j, hj with
                    | 0, _ => rfl
                    | j + 1, hj => simp at hj
                  subst h0
                  simp at hj
                  subst hj
                  go_simp
                case c2 => simp [Value.oneCell']
                case c3 => have := HN.out; unfold maxLen; omega
                case c4 => have := HN.out; omega
                case c5 => have := HW.out.size; have := H2S.out; simp; show _ ≤ wr.heap.size + 1; omega
                intro v' w4 hown4 hgrow4 _
                have HO4 : Hid (w4.ownsRow H0 9 1 v' (out ++ [x]).length ((out ++ [x]).map Value.string)) := Lib.hid (by simpa using hown4)
                have HW4 : Hid (Below H0 w2 w4) := Lib.hid (grown_to ((below_drewN HW.out nq).alloc (show H0 ≤ wr.heap.size by have := HW.out.size; have := H2S.out; omega) _) hgrow4 (fun b e => (HO.out.lt b e).1) (Nat.le_of_eq H2S.out))
                have HGR := Lib.hid hgrow4
                clear hown4 hgrow4
                go_wp2_with fail
                have HX : Below H0 wr w4 := grown_to (((below_drewN (Below.refl _ wr) nq).alloc (show H0 ≤ wr.heap.size by have := HW.out.size; have := H2S.out; omega) _)) HGR.out (fun b e => (HO.out.lt b e).1) (by have := HW.out.size; have := H2S.out; omega)
                refine ⟨⟨a, (y :: b), out ++ [x], _, _, _, _, by rw [show a.length = aN - 1 by have := HAN.out; omega], by rw [List.length_cons, ← HBN.out], Lib.hid ?_, Lib.hid ?_, HO4, Lib.hid ?_, HW4⟩, ?_⟩
                · exact ((HTA.out _ (by have := HAN.out; omega)).below HX)
                · exact by rw [HBN.out]; exact (HSB.out.below HX)
                · exact HG.out.left (by intro z hz; cases hz; exact HXY.out)
                · simp [lenOf]; omega
              · have hq := (les_bool x y).trans (pb_false hxy)
                have HXY := Lib.hid (les_of_not hxy)
                clear hxy
                go_wp2_with fail
                refine wp_region_q [0,0,0,0,0,0,0,0,0,0,1,0,0,1,0,0,0] (by kernel_rfl) (by kernel_rfl) ?_
                (refine q_pure_n rfl (fun K hK => ?_); go_simp; refine hK _ _ ?_; clear hK K)
                (refine q_pure_n rfl (fun K hK => ?_); go_simp; refine hK _ _ ?_; clear hK K)
                (refine q_pure_n rfl (fun K hK => ?_); go_simp; refine hK _ _ ?_; clear hK K)
                (refine q_pure_n rfl (fun K hK => ?_); go_simp; refine hK _ _ ?_; clear hK K)
                first | (refine q_pure_x rfl ?hy (fun K hK => ?_); (case hy => rfl); go_simp; refine hK _ _ ?_; clear hK K) | (refine q_pure_u rfl ?hy (fun K hK => ?_); (case hy => rfl); go_simp; refine hK _ _ ?_; clear hK K) | (refine q_pure_y rfl ?hy (fun K hK => ?_); (case hy => rfl); go_simp; refine hK _ _ ?_; clear hK K)
                first | (refine q_pure_x rfl ?hy (fun K hK => ?_); (case hy => rfl); go_simp; refine hK _ _ ?_; clear hK K) | (refine q_pure_u rfl ?hy (fun K hK => ?_); (case hy => rfl); go_simp; refine hK _ _ ?_; clear hK K) | (refine q_pure_y rfl ?hy (fun K hK => ?_); (case hy => rfl); go_simp; refine hK _ _ ?_; clear hK K)
                first | (refine q_pure_x rfl ?hy (fun K hK => ?_); (case hy => rfl); go_simp; refine hK _ _ ?_; clear hK K) | (refine q_pure_u rfl ?hy (fun K hK => ?_); (case hy => rfl); go_simp; refine hK _ _ ?_; clear hK K) | (refine q_pure_y rfl ?hy (fun K hK => ?_); (case hy => rfl); go_simp; refine hK _ _ ?_; clear hK K)
                first | (refine q_pure_x rfl ?hy (fun K hK => ?_); (case hy => rfl); go_simp; refine hK _ _ ?_; clear hK K) | (refine q_pure_u rfl ?hy (fun K hK => ?_); (case hy => rfl); go_simp; refine hK _ _ ?_; clear hK K) | (refine q_pure_y rfl ?hy (fun K hK => ?_); (case hy => rfl); go_simp; refine hK _ _ ?_; clear hK K)
                first | (refine q_pure_x rfl ?hy (fun K hK => ?_); (case hy => rfl); go_simp; refine hK _ _ ?_; clear hK K) | (refine q_pure_u rfl ?hy (fun K hK => ?_); (case hy => rfl); go_simp; refine hK _ _ ?_; clear hK K) | (refine q_pure_y rfl ?hy (fun K hK => ?_); (case hy => rfl); go_simp; refine hK _ _ ?_; clear hK K)
                first | (refine q_pure_x rfl ?hy (fun K hK => ?_); (case hy => rfl); go_simp; refine hK _ _ ?_; clear hK K) | (refine q_pure_u rfl ?hy (fun K hK => ?_); (case hy => rfl); go_simp; refine hK _ _ ?_; clear hK K) | (refine q_pure_y rfl ?hy (fun K hK => ?_); (case hy => rfl); go_simp; refine hK _ _ ?_; clear hK K)
                first | (refine q_read_x rfl ?hy (fun K hK => ?_); (case hy => rfl); go_simp; refine hK _ _ ?_; clear hK K) | (refine q_read_u rfl ?hy (fun K hK => ?_); (case hy => rfl); go_simp; refine hK _ _ ?_; clear hK K) | (refine q_read_y rfl ?hy (fun K hK => ?_); (case hy => rfl); go_simp; refine hK _ _ ?_; clear hK K)
                first | (refine q_pure_x rfl ?hy (fun K hK => ?_); (case hy => rfl); go_simp; refine hK _ _ ?_; clear hK K) | (refine q_pure_u rfl ?hy (fun K hK => ?_); (case hy => rfl); go_simp; refine hK _ _ ?_; clear hK K) | (refine q_pure_y rfl ?hy (fun K hK => ?_); (case hy => rfl); go_simp; refine hK _ _ ?_; clear hK K)
                first | (refine q_pure_x rfl ?hy (fun K hK => ?_); (case hy => rfl); go_simp; refine hK _ _ ?_; clear hK K) | (refine q_pure_u rfl ?hy (fun K hK => ?_); (case hy => rfl); go_simp; refine hK _ _ ?_; clear hK K) | (refine q_pure_y rfl ?hy (fun K hK => ?_); (case hy => rfl); go_simp; refine hK _ _ ?_; clear hK K)
                first | (refine q_read_x rfl ?hy (fun K hK => ?_); (case hy => rfl); go_simp; refine hK _ _ ?_; clear hK K) | (refine q_read_u rfl ?hy (fun K hK => ?_); (case hy => rfl); go_simp; refine hK _ _ ?_; clear hK K) | (refine q_read_y rfl ?hy (fun K hK => ?_); (case hy => rfl); go_simp; refine hK _ _ ?_; clear hK K)
                first | (refine q_pure_x rfl ?hy (fun K hK => ?_); (case hy => rfl); go_simp; refine hK _ _ ?_; clear hK K) | (refine q_pure_u rfl ?hy (fun K hK => ?_); (case hy => rfl); go_simp; refine hK _ _ ?_; clear hK K) | (refine q_pure_y rfl ?hy (fun K hK => ?_); (case hy => rfl); go_simp; refine hK _ _ ?_; clear hK K)
                first | (refine q_pure_x rfl ?hy (fun K hK => ?_); (case hy => rfl); go_simp; refine hK _ _ ?_; clear hK K) | (refine q_pure_u rfl ?hy (fun K hK => ?_); (case hy => rfl); go_simp; refine hK _ _ ?_; clear hK K) | (refine q_pure_y rfl ?hy (fun K hK => ?_); (case hy => rfl); go_simp; refine hK _ _ ?_; clear hK K)
                (refine q_pure_n rfl (fun K hK => ?_); go_simp; refine hK _ _ ?_; clear hK K)
                refine q_nil ?_
                intro nq
                go_wp2_with (at_builtin; refine wpList_append_own _ rfl _ _ 23 rfl H0 9 i0 (.string ⟨#[]⟩) 1 16 Try.underlying23 HI.out HZ0.out HZ1.out HZ2.out rfl (by decide) _ _ _ rfl (World.ownsRow.alloc (show (wr.drewN nq).ownsRow H0 9 1 _ out.length (out.map Value.string) from HO.out) _) ⟨wr.heap.size, 0, none⟩ 1 1 [.string y] rfl rfl ?c1 ?c2 ?c3 ?c4 ?c5 ?_)
                case c1 =>
                  intro j u hj
                  have h0 : j = 0 := by
                    match j, hj with
                    | 0, _ => rfl
                    | j + 1, hj => simp at hj
                  subst h0
                  simp at hj
                  subst hj
                  go_simp
                case c2 => simp [Value.oneCell']
                case c3 => have := HN.out; unfold maxLen; omega
                case c4 => have := HN.out; omega
                case c5 => have := HW.out.size; have := H2S.out; simp; show _ ≤ wr.heap.size + 1; omega
                intro v' w4 hown4 hgrow4 _
                have HO4 : Hid (w4.ownsRow H0 9 1 v' (out ++ [y]).length ((out ++ [y]).map Value.string)) := Lib.hid (by simpa using hown4)
                have HW4 : Hid (Below H0 w2 w4) := Lib.hid (grown_to ((below_drewN HW.out nq).alloc (show H0 ≤ wr.heap.size by have := HW.out.size; have := H2S.out; omega) _) hgrow4 (fun b e => (HO.out.lt b e).1) (Nat.le_of_eq H2S.out))
                have HGR := Lib.hid hgrow4
                clear hown4 hgrow4
                go_wp2_with fail
                have HX : Below H0 wr w4 := grown_to (((below_drewN (Below.refl _ wr) nq).alloc (show H0 ≤ wr.heap.size by have := HW.out.size; have := H2S.out; omega) _)) HGR.out (fun b e => (HO.out.lt b e).1) (by have := HW.out.size; have := H2S.out; omega)
                refine ⟨⟨(x :: a), b, out ++ [y], _, _, _, _, by rw [List.length_cons, ← HAN.out], by rw [show b.length = bN - 1 by have := HBN.out; omega], Lib.hid ?_, Lib.hid ?_, HO4, Lib.hid ?_, HW4⟩, ?_⟩
                · exact by rw [HAN.out]; exact (HSA.out.below HX)
                · exact ((HTB.out _ (by have := HBN.out; omega)).below HX)
                · exact HG.out.right (by intro z hz; cases hz; exact HXY.out)
                · simp [lenOf]; omega
end Go.Proofs.Ytpnmhldaaaemeaa.Snp
