/- The walk of the document's hash: byte by byte. -/
import Derived.Test.YthfbjgdigdlliaaRefSip
import Derived.Test.YthfbjgdigdlliaaSip
namespace Go.Proofs.Ythfbjgdigdlliaa.Sip
open Go.RowKit Go.Proofs.Ythfbjgdigdlliaa.Uw Go.Proofs.Ythfbjgdigdlliaa.Pin Go.Proofs.Ythfbjgdigdlliaa.Low

/-- the document's state behind k bytes -/
def refStep (k : Nat) (st : V4 × BitVec 64 × BitVec 64) (c : UInt8) : V4 × BitVec 64 × BitVec 64 :=
  if k % 8 = 7 then (sipMix st.1 (st.2.1 + st.2.2 * zxw c), 0#64, 1#64) else (st.1, st.2.1 + st.2.2 * zxw c, 256#64 * st.2.2)
def rAt (v : V4) (l : List UInt8) : Nat → V4 × BitVec 64 × BitVec 64
  | 0 => (v, 0#64, 1#64)
  | k + 1 => refStep k (rAt v l k) (l.getD k 0)
def top56 : BitVec 64 := 72057594037927936#64
def refP (a b : BitVec 64) (l : List UInt8) : BitVec 64 :=
  sipFin (rAt (start a b) l l.length).1 ((rAt (start a b) l l.length).2.1 + top56 * BitVec.ofNat 64 (l.length % 256))

theorem mul256 (P : Program) (t : TypeId) (w : World) (a : BitVec 64) : (binOp .mul t (.int .u64 256) (U a)).run P w = .ok (U (256#64 * a)) w := run_mul P t w 256#64 a
theorem mul56 (P : Program) (t : TypeId) (w : World) (a : BitVec 64) : (binOp .mul t (.int .u64 72057594037927936) (U a)).run P w = .ok (U (top56 * a)) w := run_mul P t w top56 a
theorem conv_len (w : World) (n : Nat) : (convert 3 22 (.int .i64 ((n : Int) % 256))).run Try.prog w = .ok (U (BitVec.ofNat 64 (n % 256))) w := by
  rw [run_ofInt Try.prog w Try.underlying3 Try.underlying22]
  rw [show ((n : Int) % 256) = ((n % 256 : Nat) : Int) by omega, BitVec.ofInt_natCast]
theorem byte_conv (w : World) (c : UInt8) : (convert 5 22 (.int .u8 (c.toNat : Int))).run Try.prog w = .ok (U (zxw c)) w :=
  run_ofByte Try.prog w Try.underlying5 Try.underlying22 c
attribute [local go_sem high] xk0 xk1 xk2 xk3 xff run_xor run_store_U eqGuard_U run_add run_mul mul256 mul56 conv_len byte_conv

def InvF (w : World) (g : Nat) (v : V4) : Prop := w.heap[g]? = some (.cells #[U v.a, U v.b, U v.c, U v.d] 45 (0, 0))
theorem InvF.below {w w' : World} {g : Nat} {v : V4} (h : InvF w g v) (hb : Below w.heap.size w w') : InvF w' g v := by
  have hlt : g < w.heap.size := (Array.getElem?_eq_some_iff.1 h).1
  unfold InvF at *
  rw [hb.block g hlt, h]
theorem InvF.set {w : World} {g : Nat} {v : V4} (h : InvF w g v) (v' : V4) : InvF (w.setRow g #[U v'.a, U v'.b, U v'.c, U v'.d]) g v' := setRow_heap w g _ _ _ _ h
theorem below_setRow {B : Nat} {a w : World} (h : Below B a w) {g : Nat} (hB : B ≤ g) (cs : Array Value) : Below B a (w.setRow g cs) :=
  h.trans ⟨rfl, rfl, rfl, by simp, fun k hk => setRow_other w g k cs (by omega)⟩

set_option maxHeartbeats 2000000 in
set_option maxRecDepth 100000 in
theorem refSip_any (a b : BitVec 64) (s : ByteArray) (w : World) (hs : s.size ≤ 140737488351232) :
    Calls Try.prog 13 #[U a, U b, .string s] w fun e w' => e = .returned (U (refP a b s.data.toList)) ∧ Below w.heap.size w w' := by
  go_enter Try.func13, Try.ntmps13
  go_wp2_with fail
  obtain ⟨W, hW⟩ : ∃ W, W = w.alloc (Obj.cells #[U (a ^^^ key0), U (b ^^^ key1), U (a ^^^ key2), U (b ^^^ key3)] 45) := ⟨_, rfl⟩
  have I : Hid (InvF W w.heap.size (start a b)) := by rw [hW]; exact heap_alloc_new w _
  have L : Hid (Below w.heap.size w W) := by rw [hW]; exact (Below.refl _ _).alloc (Nat.le_refl _) _
  rw [← hW]
  clear hW
  go_loopw [8, 9, 10] (fun m f i wr => ∃ (k : Nat) (st : V4 × BitVec 64 × BitVec 64), k ≤ s.size ∧ i = .int .i64 k ∧ Hid (st = rAt (start a b) s.data.toList k) ∧ m = U st.2.1 ∧ f = U st.2.2 ∧ Hid (InvF wr w.heap.size st.1) ∧ Hid (Below w.heap.size w wr)) (fun _ _ i _ => s.size - (intOf i).toNat)
  case atStart => exact ⟨0, (start a b, 0#64, 1#64), by omega, rfl, Lib.hid rfl, rfl, rfl, I, L⟩
  case round =>
    obtain ⟨k, st, hk, rfl, HST, rfl, rfl, HI, HB⟩ := hrel
    clear I L
    by_cases hlt : k < s.size
    · have hgd : s.data.toList.getD k 0 = s[k] := by
        have : k < s.data.toList.length := by rw [Array.length_toList]; exact hlt
        rw [List.getD_eq_getElem?_getD, List.getElem?_eq_getElem this]; rfl
      have HG := Lib.hid hgd
      clear hgd
      by_cases h7 : k % 8 = 7
      · have h7' : (k : Int) % 8 = 7 := by omega
        have h7b : (((k : Int) % 8) == 7) = true := by rw [beq_iff_eq]; exact h7'
        clear h7'
        obtain ⟨c0, c1, c2, c3, fz⟩ := cells4 HI.out
        go_wp2_with fail
        refine (mixed_any _ _ _ _ _ _).mono ?_
        rintro e w1 ⟨rfl, hb1⟩
        have I1 := Lib.hid (HI.out.below hb1)
        have B1 := Lib.hid (HB.out.trans (hb1.mono HB.out.size))
        obtain ⟨u, hu⟩ : ∃ u, u = sipMix ⟨st.1.a, st.1.b, st.1.c, st.1.d⟩ (st.2.1 + st.2.2 * zxw s[k]) := ⟨_, rfl⟩
        rw [← hu]
        have HU := Lib.hid hu
        clear hu hb1 c0 c1 c2 c3 fz
        go_wp2_with (refine wpList_store_row rfl 45 (.tmp 7) (.tmp 41) rfl w.heap.size #[U u.a, U u.b, U u.c, U u.d] rfl rfl 45 _ I1.out info_four rfl (all_U4 _ _ _ _) ?_)
        refine ⟨⟨k + 1, (u, 0#64, 1#64), by omega, by go_num, Lib.hid ?_, rfl, rfl, Lib.hid (I1.out.set u), Lib.hid (below_setRow B1.out (Nat.le_refl _) _)⟩, by simp [intOf]; omega⟩
        rw [rAt, ← HST.out, refStep, if_pos h7, HG.out, HU.out]
      · have h7' : ¬ (k : Int) % 8 = 7 := by omega
        have h7b : (((k : Int) % 8) == 7) = false := by rw [beq_eq_false_iff_ne]; exact h7'
        clear h7'
        go_wp2_with fail
        refine ⟨⟨k + 1, (st.1, st.2.1 + st.2.2 * zxw s[k], 256#64 * st.2.2), by omega, by go_num, Lib.hid ?_, rfl, rfl, HI, HB⟩, by simp [intOf]; omega⟩
        rw [rAt, ← HST.out, refStep, if_neg h7, HG.out]
    · have e : k = s.size := by omega
      subst e
      obtain ⟨c0, c1, c2, c3, fz⟩ := cells4 HI.out
      go_wp2_with fail
      refine (mixed_any _ _ _ _ _ _).mono ?_
      rintro e w1 ⟨rfl, hb1⟩
      have I1 := Lib.hid (HI.out.below hb1)
      have B1 := Lib.hid (HB.out.trans (hb1.mono HB.out.size))
      obtain ⟨u, hu⟩ : ∃ u, u = sipMix ⟨st.1.a, st.1.b, st.1.c, st.1.d⟩ (st.2.1 + top56 * BitVec.ofNat 64 (s.size % 256)) := ⟨_, rfl⟩
      rw [← hu]
      have HU := Lib.hid hu
      clear hu hb1 c0 c1 c2 c3 fz
      have I2 := Lib.hid (I1.out.set u)
      obtain ⟨c0, c1, c2, c3, fz⟩ := cells4 I2.out
      have hs2 := set4_2 I2.out (U (u.c ^^^ 255#64))
      rw [setRow_setRow] at hs2
      have HS2 := Lib.hid hs2
      have I3 := Lib.hid (I1.out.set ⟨u.a, u.b, u.c ^^^ 255#64, u.d⟩)
      clear hs2
      go_wp2_with (first
        | (refine wpList_store_row rfl 45 (.tmp 7) (.tmp 50) rfl w.heap.size #[U u.a, U u.b, U u.c, U u.d] rfl rfl 45 _ I1.out info_four rfl (all_U4 _ _ _ _) ?_)
        | (rw [HS2.out]; refine wpList_load_row rfl 45 (.tmp 7) rfl w.heap.size rfl 45 #[U u.a, U u.b, U (u.c ^^^ 255#64), U u.d] (0, 0) _ I3.out Try.underlying45 rfl info_four ?_))
      have B3 := Lib.hid (below_setRow B1.out (Nat.le_refl _) #[U u.a, U u.b, U (u.c ^^^ 255#64), U u.d])
      obtain ⟨W3, hW3⟩ : ∃ W3, W3 = w1.setRow w.heap.size #[U u.a, U u.b, U (u.c ^^^ 255#64), U u.d] := ⟨_, rfl⟩
      have I3' : Hid (InvF W3 w.heap.size ⟨u.a, u.b, u.c ^^^ 255#64, u.d⟩) := by rw [hW3]; exact I3
      rw [← hW3] at B3 ⊢
      clear hW3 I3 I2 HS2 I1 c0 c1 c2 c3 fz
      refine (round_any _ _ _ _ _).mono ?_
      rintro e x1 ⟨rfl, b1⟩
      have J1 := Lib.hid (B3.out.trans (b1.mono B3.out.size))
      have K1 := Lib.hid (I3'.out.below b1)
      clear b1 I3' B3
      go_wp2_with fail
      refine (round_any _ _ _ _ _).mono ?_
      rintro e x2 ⟨rfl, b2⟩
      have J2 := Lib.hid (J1.out.trans (b2.mono J1.out.size))
      have K2 := Lib.hid (K1.out.below b2)
      clear b2 K1 J1
      go_wp2_with fail
      refine (round_any _ _ _ _ _).mono ?_
      rintro e x3 ⟨rfl, b3⟩
      have J3 := Lib.hid (J2.out.trans (b3.mono J2.out.size))
      have K3 := Lib.hid (K2.out.below b3)
      clear b3 K2 J2
      go_wp2_with fail
      refine (round_any _ _ _ _ _).mono ?_
      rintro e x4 ⟨rfl, b4⟩
      have J4 := Lib.hid (J3.out.trans (b4.mono J3.out.size))
      have K4 := Lib.hid (K3.out.below b4)
      clear b4 K3 J3
      obtain ⟨y, hy⟩ : ∃ y, y = sipRounds 4 ⟨u.a, u.b, u.c ^^^ 255#64, u.d⟩ := ⟨_, rfl⟩
      have hy' : ∀ (r : V4), sipRound ⟨r.a, r.b, r.c, r.d⟩ = sipRound r := fun _ => rfl
      simp only [hy']
      rw [show sipRound (sipRound (sipRound (sipRound ⟨u.a, u.b, u.c ^^^ 255#64, u.d⟩))) = y from hy.symm]
      have HY := Lib.hid hy
      clear hy hy'
      have I5 := Lib.hid (K4.out.set y)
      obtain ⟨c0, c1, c2, c3, fz⟩ := cells4 I5.out
      go_wp2_with (refine wpList_store_row rfl 45 (.tmp 7) (.tmp 59) rfl w.heap.size #[U y.a, U y.b, U y.c, U y.d] rfl rfl 45 _ K4.out info_four rfl (all_U4 _ _ _ _) ?_)
      go_ret
      refine ⟨?_, below_setRow J4.out (Nat.le_refl _) _⟩
      have hsl : s.data.toList.length = s.size := by rw [Array.length_toList]; rfl
      have e : refP a b s.data.toList = y.a ^^^ y.b ^^^ y.c ^^^ y.d := by
        unfold refP sipFin
        rw [hsl, ← HST.out, HY.out, HU.out]
      rw [e]
      rfl
end Go.Proofs.Ythfbjgdigdlliaa.Sip
