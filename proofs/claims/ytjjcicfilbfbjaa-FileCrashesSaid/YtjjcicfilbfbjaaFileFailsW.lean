/- The walk of FileFails: it answers true. -/
import Derived.Test.YtjjcicfilbfbjaaFileMovesW
namespace Go.Proofs.Ytjjcicfilbfbjaa.FileFails
open Go.RowKit Go.Maps Go.Sort Go.Proofs.Ytjjcicfilbfbjaa.Pin Go.Proofs.Ytjjcicfilbfbjaa.Gon Go.Proofs.Ytjjcicfilbfbjaa.Mps Go.Proofs.Ytjjcicfilbfbjaa.Dsk

/-- a slice that reads as texts -/
def StrsAt (w : World) (A : Option Addr) (ts : List ByteArray) : Prop := ∀ j (h : j < ts.length), ∃ r o, A = some ⟨r, o, none⟩ ∧ r < w.heap.size ∧ w.cell? ⟨r, o + j, none⟩ = some (.string ts[j])
theorem StrsAt.below {w w' : World} {A : Option Addr} {ts : List ByteArray} (h : StrsAt w A ts) (hb : Below w.heap.size w w') : StrsAt w' A ts := fun j hj => by
  obtain ⟨r, o, e, h1, h2⟩ := h j hj
  exact ⟨r, o, e, Nat.lt_of_lt_of_le h1 hb.size, (hb.cell (p := ⟨r, o + j, none⟩) h1).trans h2⟩
def sizes (ts : List ByteArray) : Nat := (ts.map (·.size)).sum
theorem sizes_append (a b : List ByteArray) : sizes (a ++ b) = sizes a + sizes b := by simp [sizes]
theorem sizes_take (ts : List ByteArray) (k : Nat) (h : k < ts.length) : sizes (ts.take (k + 1)) = sizes (ts.take k) + ts[k].size := by
  rw [List.take_succ_eq_append_getElem h, sizes_append]
  simp [sizes]
theorem sizes_le (ts : List ByteArray) (k : Nat) : sizes (ts.take k) ≤ sizes ts := by
  have h := sizes_append (ts.take k) (ts.drop k)
  rw [List.take_append_drop] at h
  omega
set_option maxHeartbeats 400000 in
theorem size_any (ts : List ByteArray) (A : Option Addr) (c : Nat) (w : World) (hT : StrsAt w A ts) (hl : ts.length ≤ 140737488351232) (hs : ∀ t ∈ ts, t.size ≤ 140737488351232) :
    Calls Try.prog 16 #[.slice A ts.length c] w fun e w' => ∃ v : Nat, e = .returned (.int .i64 (v : Int)) ∧ v ≤ 281474976710656 ∧ (v ≤ 1048576 → sizes ts ≤ 1048576) ∧ w = w' := by
  have HT := Lib.hid hT
  have HS := Lib.hid hs
  obtain ⟨L, hL⟩ : ∃ L, L = ts.length := ⟨_, rfl⟩
  rw [← hL] at hl ⊢
  have HL := Lib.hid hL
  clear hT hs hL
  go_enter Try.func16, Try.ntmps16
  go_wp2_with fail
  go_loop [3, 4] (fun v i => ∃ (k n : Nat), k ≤ L ∧ i = .int .i64 k ∧ v = .int .i64 (n : Int) ∧ n ≤ 281474976710656 ∧ Hid (sizes (ts.take k) ≤ n)) (fun _ i => L - (intOf i).toNat)
  case atStart => exact ⟨0, L, by omega, rfl, rfl, by omega, Lib.hid (by simp [sizes])⟩
  case round =>
    obtain ⟨k, n, hk, rfl, rfl, hn, HN⟩ := hrel
    by_cases hlt : k < L
    · have hlt' : (k : Int) < (L : Int) := by omega
      by_cases hm : n ≤ 1048576
      · have hm' : (n : Int) ≤ 1048576 := by omega
        have hks : k < ts.length := by rw [← HL.out]; exact hlt
        obtain ⟨r, o, rfl, hr, hc⟩ := HT.out k hks
        obtain ⟨x, hx⟩ : ∃ x, x = ts[k] := ⟨_, rfl⟩
        have hxs : x.size ≤ 140737488351232 := by rw [hx]; exact HS.out _ (List.getElem_mem _)
        rw [← hx] at hc
        have HX := Lib.hid hx
        clear hx
        go_wp2_with fail
        go_round
        case rel => exact ⟨k + 1, n + x.size, by omega, by go_num, by go_num, by omega, Lib.hid (by
          rw [sizes_take ts k hks, ← HX.out]
          have := HN.out
          omega)⟩
        case measure => simp [intOf]; omega
      · have hm' : ¬ (n : Int) ≤ 1048576 := by omega
        go_wp2_with fail
        go_ret
        exact ⟨n, rfl, hn, fun h => absurd h hm, rfl⟩
    · have hlt' : ¬ ((k : Int) < (L : Int)) := by omega
      obtain rfl : k = L := by omega
      go_wp2_with fail
      go_ret
      refine ⟨n, rfl, hn, fun h => ?_, rfl⟩
      have := HN.out
      rw [HL.out, List.take_length] at this
      omega
/-- texts behind one another -/
def catB (ts : List ByteArray) : ByteArray := ts.foldl (· ++ ·) ⟨#[]⟩
theorem catB_take (ts : List ByteArray) (k : Nat) (h : k < ts.length) : catB (ts.take (k + 1)) = catB (ts.take k) ++ ts[k] := by
  rw [List.take_succ_eq_append_getElem h]
  unfold catB
  rw [List.foldl_append]
  rfl
theorem catB_size (ts : List ByteArray) : (catB ts).size = sizes ts := by
  have h : ∀ (ts : List ByteArray) (b : ByteArray), (ts.foldl (· ++ ·) b).size = b.size + sizes ts := by
    intro ts
    induction ts with
    | nil => intro b; simp [sizes]
    | cons t r ih =>
      intro b
      rw [List.foldl_cons, ih, size_append]
      simp [sizes]
      omega
  rw [catB, h]
  have : (⟨#[]⟩ : ByteArray).size = 0 := rfl
  omega
def wantB (ts : List ByteArray) (n k : Nat) : ByteArray := catB (ts.take (min k n))
def remN (n k : Nat) : Int := if k < n then (n : Int) - (k : Int) else 0
def filesF (ts : List ByteArray) (n k : Nat) : List Abs := if n = 0 ∨ k = 0 then [] else [(⟨#[102]⟩, wantB ts n k, 0)]
theorem want_size (ts : List ByteArray) (n k : Nat) (h : sizes ts ≤ 1048576) : (wantB ts n k).size ≤ 1048576 := by
  rw [wantB, catB_size]
  have := sizes_le ts (min k n)
  omega
theorem want_succ (ts : List ByteArray) (n k : Nat) (h : k < ts.length) (hn : k < n) : wantB ts n (k + 1) = wantB ts n k ++ ts[k] := by
  unfold wantB
  rw [show min (k + 1) n = k + 1 by omega, show min k n = k by omega]
  exact catB_take ts k h
theorem want_stay (ts : List ByteArray) (n k : Nat) (hn : ¬ k < n) : wantB ts n (k + 1) = wantB ts n k := by
  unfold wantB
  rw [show min (k + 1) n = n by omega, show min k n = n by omega]
theorem fine_f (ts : List ByteArray) (n k : Nat) (h : sizes ts ≤ 1048576) : Fine 2097152 (filesF ts n k) := by
  unfold filesF
  have := want_size ts n k h
  split
  · exact fine0 (by decide) (by decide)
  · exact fine1 (by decide) (by omega) (by omega) (by decide)
theorem empty_app (b : ByteArray) : (⟨#[]⟩ : ByteArray) ++ b = b := by
  exact ByteArray.empty_append
theorem idx_one (x : List UInt8) : List.idxOf x [x] = 0 := by simp
theorem crash_f (b : ByteArray) (k : Nat) (hk : k = b.size) : crashAll [(k : Int)] [((⟨#[102]⟩, b, 0) : Abs)] = [(⟨#[102]⟩, b, b.size)] := by
  have h : namesL [((⟨#[102]⟩, b, 0) : Abs)] = [[102]] := by
    unfold namesL
    show [[102]].mergeSort leB = _
    simp
  have h1 : key ((⟨#[102]⟩, b, 0) : Abs) = [102] := rfl
  have h2 : keptN [(k : Int)] 0 b 0 = b.size := by
    unfold keptN
    rw [dif_pos (by simp)]
    simp
    omega
  unfold crashAll
  simp only [List.map_cons, List.map_nil, h, h1, idx_one]
  unfold crash1
  rw [h2]
  have h3 : cutB b b.size = b := by
    obtain ⟨⟨l⟩⟩ := b
    unfold cutB
    show (⟨(l.take l.length).toArray⟩ : ByteArray) = _
    rw [List.take_length]
  rw [h3]
theorem crash_nil (keep : List Int) : crashAll keep [] = [] := rfl
theorem files_some (ts : List ByteArray) (n k : Nat) (h1 : ¬ n = 0) (h2 : ¬ k = 0) : filesF ts n k = [(⟨#[102]⟩, wantB ts n k, 0)] := by
  unfold filesF
  rw [if_neg (by omega)]
theorem put_k (ts : List ByteArray) (n k : Nat) (B g : Nat) (w : World) (hz : sizes ts ≤ 1048576) (hk : k < ts.length) (hn : k < n) (h256 : n < 256) (h : Dk w B g 2097152 (remN n k) (filesF ts n k)) (hB : B ≤ w.heap.size) :
    Calls Try.prog 9 #[.pointer (some ⟨g, 0, none⟩), .string ⟨#[102]⟩, .string ts[k]] w fun e w' => e = .returned (.int .i64 0) ∧ Dk w' B g 2097152 (remN n (k + 1)) (filesF ts n (k + 1)) ∧ Below B w w' := by
  have hr : remN n k = (n : Int) - (k : Int) := by unfold remN; rw [if_pos hn]
  have hr2 : nextn ((n : Int) - (k : Int)) = remN n (k + 1) := by
    unfold nextn remN
    rw [if_pos (by omega)]
    split <;> omega
  have hw := want_succ ts n k hk hn
  have hw2 := want_size ts n (k + 1) hz
  rw [files_some ts n (k + 1) (by omega) (by omega), ← hr2]
  have hsz : (wantB ts n k).size + ts[k].size ≤ 1048576 := by
    rw [hw, size_append] at hw2
    exact hw2
  rw [hr] at h
  by_cases h0 : k = 0
  · subst h0
    have e0 : filesF ts n 0 = [] := by unfold filesF; simp
    have e1 : wantB ts n 0 = ⟨#[]⟩ := by simp [wantB, catB]
    rw [e0] at h
    rw [hw, e1, empty_app]
    refine append_n B g 2097152 _ [] ⟨#[102]⟩ ts[0] w h hB (fine0 (by decide) (by decide)) (by simp) (by decide) (by decide) (by omega) (by omega) ?_
    have : tot [] = 0 := rfl
    omega
  · rw [files_some ts n k (by omega) h0] at h
    rw [hw]
    refine append_d B g 2097152 _ [] (⟨#[102]⟩, wantB ts n k, 0) [] ts[k] w h hB (fine1 (by decide) (by omega) (by omega) (by decide)) (show 0 < (⟨#[102]⟩ : ByteArray).size from by decide) (by omega) (by omega) ?_
    have : tot ([] ++ [((⟨#[102]⟩, wantB ts n k, 0) : Abs)]) = (wantB ts n k).size := by simp [tot]
    omega
set_option maxHeartbeats 4000000 in
set_option maxRecDepth 100000 in
theorem walk (n : Nat) (hn : n < 256) (ts : List ByteArray) (A : Option Addr) (c : Nat) (w : World) (hT : StrsAt w A ts) (hl : ts.length ≤ 140737488351232) (hs : ∀ t ∈ ts, t.size ≤ 140737488351232) :
    Calls Try.prog 4 #[.int .u8 (n : Int), .slice A ts.length c] w fun e w' => e = .returned (.bool true) ∧ Below w.heap.size w w' := by
  have HT := Lib.hid hT
  have HS := Lib.hid hs
  obtain ⟨L, hL⟩ : ∃ L, L = ts.length := ⟨_, rfl⟩
  have HSZ := Lib.hid (fun W (h : StrsAt W A ts) => size_any ts A c W h hl hs)
  rw [← hL] at hl HSZ ⊢
  have HL := Lib.hid hL
  clear hT hs hL
  go_enter Try.func4, Try.ntmps4
  go_wp2_with fail
  refine (alive_any w).mono ?_
  rintro e w1 ⟨rfl, hb1⟩
  have HB1 : Hid (Below w.heap.size w w1) := Lib.hid hb1
  clear hb1
  go_wp2_with fail
  refine (HSZ.out w1 (HT.out.below HB1.out)).mono ?_
  rintro e w' ⟨v, rfl, hv1, hv2, rfl⟩
  have HV := Lib.hid hv2
  clear hv2
  go_wp2_with fail
  have hcl : ∀ j (h : j < [(v : Int)].length), (w1.alloc (.cells #[.int .i64 (v : Int)] 3)).cell? ⟨w1.heap.size, j, none⟩ = some (.int .i64 ([(v : Int)][j])) := by
    intro j hj
    rw [Lib.cell_of_heap (heap_alloc_last _ _)]
    match j, hj with
    | 0, _ => rfl
  refine (Bey.beyond_any [(v : Int)] 1 w1.heap.size _ (by simp) (by intro x hx; obtain rfl := List.mem_singleton.1 hx; omega) hcl).mono ?_
  rintro e w' ⟨rfl, rfl⟩
  clear hcl
  have HB2 : Hid (Below w.heap.size w (w1.alloc (.cells #[.int .i64 (v : Int)] 3))) := Lib.hid (HB1.out.alloc HB1.out.size _)
  obtain ⟨W2, hW2⟩ : ∃ W2, W2 = w1.alloc (.cells #[.int .i64 (v : Int)] 3) := ⟨_, rfl⟩
  rw [← hW2] at HB2 ⊢
  clear hW2 HB1
  have again : ∀ (W : World), Hid (Below w.heap.size w W) → Calls Try.prog 7 #[] W fun e w' => e = .returned (.bool true) ∧ Below w.heap.size w w' := fun W h => (alive_any W).mono (fun e w' ⟨h1, h2⟩ => ⟨h1, h.out.trans (h2.mono h.out.size)⟩)
  have HAG := Lib.hid again
  clear again
  cases hbe : Bey.beyond 0 [(v : Int)] with
  | true =>
    go_wp2_with fail
    refine (HAG.out W2 HB2).mono ?_
    rintro e w3 ⟨rfl, hb3⟩
    have HB3 := Lib.hid hb3
    clear hb3 hbe
    go_wp2_with fail
    go_ret
    exact ⟨rfl, HB3.out⟩
  | false =>
    have hsum : sizes ts ≤ 1048576 := HV.out (by have := bey1 hbe; omega)
    clear hbe
    by_cases h600 : 600 < L
    · have h600' : (600 : Int) < (L : Int) := by omega
      go_wp2_with fail
      refine (HAG.out W2 HB2).mono ?_
      rintro e w3 ⟨rfl, hb3⟩
      have HB3 := Lib.hid hb3
      clear hb3
      go_wp2_with fail
      go_ret
      exact ⟨rfl, HB3.out⟩
    · have h600' : ¬ (600 : Int) < (L : Int) := by omega
      go_wp2_with fail
      refine (new_d 2097152 W2 (by decide) (by decide)).mono ?_
      rintro e w3 ⟨g, rfl, hd, hb⟩
      have HD3 : Hid (Dk w3 W2.heap.size g 2097152 (-1) []) := Lib.hid hd
      have HB3 : Hid (Below W2.heap.size W2 w3) := Lib.hid hb
      clear hd hb
      go_wp2_with fail
      refine (fail_d W2.heap.size g 2097152 (-1) (n : Int) [] w3 HD3.out HB3.out.size).mono ?_
      rintro e w4 ⟨rfl, hd, hb⟩
      have HD4 : Hid (Dk w4 W2.heap.size g 2097152 (remN n 0) (filesF ts n 0)) := by
        have e1 : remN n 0 = (n : Int) := by unfold remN; split <;> omega
        have e2 : filesF ts n 0 = [] := by unfold filesF; simp
        rw [e1, e2]
        exact Lib.hid hd
      have HB4 := Lib.hid (HB3.out.trans hb)
      have HSM := Lib.hid hsum
      clear hd hb hsum
      go_wp2_with fail
      go_loopw [7, 8] (fun s i wr => ∃ (k : Nat), k ≤ L ∧ i = .int .i64 k ∧ s = .string (wantB ts n k) ∧ Hid (Dk wr W2.heap.size g 2097152 (remN n k) (filesF ts n k)) ∧ Hid (Below W2.heap.size W2 wr)) (fun _ i _ => L - (intOf i).toNat)
      case atStart => exact ⟨0, by omega, rfl, by simp [wantB, catB], HD4, HB4⟩
      case round =>
        obtain ⟨k, hk, rfl, rfl, HDk, HBk⟩ := hrel
        clear HD4 HB4
        by_cases hlt : k < L
        · have hlt' : (k : Int) < (L : Int) := by omega
          have hks : k < ts.length := by rw [← HL.out]; exact hlt
          obtain ⟨r, o, rfl, hr, hc⟩ := (HT.out.below (HB2.out.trans (HBk.out.mono HB2.out.size))) k hks
          have HTK := Lib.hid (put_k ts n k W2.heap.size g wr HSM.out hks)
          obtain ⟨x, hx⟩ : ∃ x, x = ts[k] := ⟨_, rfl⟩
          rw [← hx] at hc HTK
          have HX := Lib.hid hx
          clear hx hr
          by_cases hkn : k < n
          · have hkn' : (k : Int) < (n : Int) := by omega
            have hn0 : (0 : Int) < (n : Int) := by omega
            have hn1 : 0 < n := by omega
            have hcs : (wantB ts n k).size + x.size ≤ 1048576 := by
              have := want_size ts n (k + 1) HSM.out
              rw [want_succ ts n k hks hkn, size_append, ← HX.out] at this
              exact this
            have hq : ((wantB ts n (k + 1)).toList == (wantB ts n k ++ x).toList) = true := by
              rw [want_succ ts n k hks hkn, HX.out]
              exact beq_self_eq_true _
            go_wp2_with fail
            refine (HTK.out hkn hn HDk.out HBk.out.size).mono ?_
            rintro e wA ⟨rfl, hd, hb⟩
            have HDA := Lib.hid hd
            have HBA := Lib.hid (HBk.out.trans hb)
            have hcA : wA.cell? ⟨r, o + k, none⟩ = some (.string x) := by
              obtain ⟨r', o', e, _, h2⟩ := (HT.out.below (HB2.out.trans (HBA.out.mono HB2.out.size))) k hks
              cases e
              rw [HX.out]
              exact h2
            clear hd hb
            go_wp2_with fail
            have HF := Lib.hid (fine_f ts n (k + 1) HSM.out)
            have HDR := HDA
            rw [files_some ts n (k + 1) (by omega) (by omega)] at HDA HF
            refine (read_d W2.heap.size g 2097152 _ _ (⟨#[102]⟩, wantB ts n (k + 1), 0) wA HDA.out HF.out (by simp)).mono ?_
            rintro e w' ⟨rfl, rfl⟩
            go_wp2_with fail
            go_roundw
            case rel => exact ⟨k + 1, by omega, by go_num, by rw [want_succ ts n k hks hkn, HX.out], HDR, HBA⟩
            case measure => simp [intOf]; omega
          · have hkn' : ¬ (k : Int) < (n : Int) := by omega
            have hr0 : remN n k = 0 := by unfold remN; rw [if_neg hkn]
            have hr1 : remN n (k + 1) = 0 := by unfold remN; rw [if_neg (by omega)]
            have hw1 := want_stay ts n k hkn
            have hf1 : filesF ts n (k + 1) = filesF ts n k := by
              unfold filesF
              rw [hw1]
              by_cases h0 : n = 0
              · rw [if_pos (by omega), if_pos (by omega)]
              · rw [if_neg (by omega), if_neg (by omega)]
            have HDk1 : Hid (Dk wr W2.heap.size g 2097152 (remN n (k + 1)) (filesF ts n (k + 1))) := by
              rw [hr1, hf1, ← hr0]
              exact HDk
            have HDk0 := HDk
            rw [hr0] at HDk0
            have HW1 := Lib.hid hw1
            clear hr0 hr1 hw1 hf1
            go_wp2_with fail
            refine (append_io_d W2.heap.size g 2097152 _ ⟨#[102]⟩ x wr HDk0.out (by decide) (by decide)).mono ?_
            rintro e w' ⟨rfl, rfl⟩
            by_cases hn0 : n = 0
            · have hwe : (wantB ts n k).toList = [] := by rw [hn0]; simp [wantB, catB]
              have hn1 : ¬ 0 < n := by omega
              have hn2 : ¬ (0 : Int) < (n : Int) := by omega
              have HN0 := Lib.hid hn0
              clear hn0
              go_wp2_with fail
              refine (read_g W2.heap.size g 2097152 _ _ ⟨#[102]⟩ wr HDk0.out ?_).mono ?_
              · intro y hy
                rw [HN0.out] at hy
                simp [filesF] at hy
              rintro e w' ⟨rfl, rfl⟩
              go_wp2_with fail
              go_roundw
              case rel => exact ⟨k + 1, by omega, by go_num, by rw [HW1.out], HDk1, HBk⟩
              case measure => simp [intOf]; omega
            · have hn1 : 0 < n := by omega
              have hn2 : (0 : Int) < (n : Int) := by omega
              have HF := Lib.hid (fine_f ts n k HSM.out)
              rw [files_some ts n k hn0 (by omega)] at HDk0 HF
              go_wp2_with fail
              refine (read_d W2.heap.size g 2097152 _ _ (⟨#[102]⟩, wantB ts n k, 0) wr HDk0.out HF.out (by simp)).mono ?_
              rintro e w' ⟨rfl, rfl⟩
              go_wp2_with fail
              go_roundw
              case rel => exact ⟨k + 1, by omega, by go_num, by rw [HW1.out], HDk1, HBk⟩
              case measure => simp [intOf]; omega
        · obtain rfl : k = L := by omega
          have hlt' : ¬ ((k : Int) < (k : Int)) := by omega
          have hws := want_size ts n k HSM.out
          have HF := Lib.hid (fine_f ts n k HSM.out)
          obtain ⟨wb, hwb⟩ : ∃ wb, wb = wantB ts n k := ⟨_, rfl⟩
          rw [← hwb] at hws ⊢
          have HWB := Lib.hid hwb
          clear hwb
          go_wp2_with fail
          refine (crash_d W2.heap.size g 2097152 _ _ (some ⟨wr.heap.size, 0, none⟩) [(wb.size : Int)] 1 wr _ HDk.out ((Below.refl _ wr).alloc (Nat.le_refl _) _) ?_ HF.out ?_ (by simp)).mono ?_
          · have := HBk.out.size
            simp
            omega
          · intro own ho i hi
            obtain rfl : i = 0 := by simp at hi; omega
            refine ⟨wr.heap.size, 0, rfl, by simp, fun hm => ?_, ?_⟩
            · have := (ho _ hm).2
              omega
            · show (wr.alloc _).cell? ⟨wr.heap.size, 0, none⟩ = _
              simp
          rintro e w5 ⟨rfl, hd, hb⟩
          have HB5 : Hid (Below W2.heap.size W2 w5) := Lib.hid ((HBk.out.alloc HBk.out.size _).trans hb)
          by_cases hnk : n = 0 ∨ k = 0
          · have hf0 : filesF ts n k = [] := by unfold filesF; rw [if_pos hnk]
            rw [hf0, crash_nil] at hd
            have HD5 := Lib.hid hd
            clear hd hb hf0 hnk
            go_wp2_with fail
            refine (append_n W2.heap.size g 2097152 (-1) [] ⟨#[102]⟩ ⟨#[120]⟩ w5 HD5.out HB5.out.size (fine0 (by decide) (by decide)) (by simp) (by decide) (by decide) (by decide) (by decide) (by decide)).mono ?_
            rintro e w6 ⟨rfl, _, hb⟩
            have HB6 : Hid (Below W2.heap.size W2 w6) := Lib.hid (HB5.out.trans hb)
            clear hb
            go_wp2_with fail
            go_ret
            exact ⟨rfl, HB2.out.trans (HB6.out.mono HB2.out.size)⟩
          · rw [files_some ts n k (by omega) (by omega), ← HWB.out, crash_f wb wb.size rfl] at hd
            have HD5 := Lib.hid hd
            clear hd hb hnk
            go_wp2_with fail
            refine (append_d W2.heap.size g 2097152 (-1) [] (⟨#[102]⟩, wb, wb.size) [] ⟨#[120]⟩ w5 HD5.out HB5.out.size (fine1 (by decide) (by omega) (by omega) (by decide)) (show 0 < (⟨#[102]⟩ : ByteArray).size from by decide) (by decide) (by decide) ?_).mono ?_
            · have h1 : tot ([] ++ [((⟨#[102]⟩, wb, wb.size) : Abs)]) = wb.size := by simp [tot]
              have h2 : (⟨#[120]⟩ : ByteArray).size = 1 := rfl
              omega
            rintro e w6 ⟨rfl, _, hb⟩
            have HB6 : Hid (Below W2.heap.size W2 w6) := Lib.hid (HB5.out.trans hb)
            clear hb
            go_wp2_with fail
            go_ret
            exact ⟨rfl, HB2.out.trans (HB6.out.mono HB2.out.size)⟩
end Go.Proofs.Ytjjcicfilbfbjaa.FileFails
