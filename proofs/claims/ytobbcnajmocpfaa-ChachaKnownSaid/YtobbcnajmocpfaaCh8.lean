/- words. -/
import Derived.Test.YtobbcnajmocpfaaCh7
namespace Go.Proofs.Ytobbcnajmocpfaa
open Go.RowKit
attribute [local go_sem] yld yldUpon_value

theorem block_lt_of {w : World} {ad : Addr} {v : Value} (h : w.cell? ad = some v) : ad.block < w.heap.size := World.block_lt_of_cell? _ _ h
theorem cell_fr {w w' : World} {ad : Addr} {v : Value} {M : Nat → Prop} (h : w.cell? ad = some v) (hf : Fr M w w') (hM : ¬ M ad.block) : w'.cell? ad = some v := by
  rw [World.cell?_of_block (w := w) (hf.block _ (block_lt_of h) hM)]; exact h
/-- the bytes of words, the highest first -/
def beB (x : BitVec 32) : List UInt8 := [byteOf x 3, byteOf x 2, byteOf x 1, byteOf x 0]
def beL : List (BitVec 32) → List UInt8
  | [] => []
  | x :: s => beB x ++ beL s
theorem beL_len : ∀ s : List (BitVec 32), (beL s).length = 4 * s.length
  | [] => rfl
  | _ :: s => by rw [beL, List.length_append, beL_len s, List.length_cons]; simp [beB]; omega
theorem beL_append (s t : List (BitVec 32)) : beL (s ++ t) = beL s ++ beL t := by
  induction s with
  | nil => rfl
  | cons x s ih => rw [List.cons_append, beL, beL, ih, List.append_assoc]

theorem beB_cells (x : BitVec 32) : #[Value.int IntKind.u8 (wv x / 16777216), Value.int IntKind.u8 (wv x / 65536 % 256), Value.int IntKind.u8 (wv x / 256 % 256), Value.int IntKind.u8 (wv x % 256)] = (bs (beB x)).toArray := by
  have h := wv_lt x
  have e3 := bv_byteOf x 3; have e2 := bv_byteOf x 2; have e1 := bv_byteOf x 1; have e0 := bv_byteOf x 0
  simp only [bs, beB, List.map_cons, List.map_nil]
  rw [← e3, ← e2, ← e1, ← e0]
  rw [show wv x / 2 ^ (8 * 3) % 256 = wv x / 16777216 by show wv x / 16777216 % 256 = _; omega, show wv x / 2 ^ (8 * 0) = wv x by show wv x / 1 = _; omega]
  rfl
set_option maxRecDepth 100000 in
set_option maxHeartbeats 4000000 in
theorem words_any (w : World) (A : Option Addr) (n c : Nat) (s : List (BitVec 32)) (hn : s.length = n) (h : Rd w A (wl s)) (hb : n ≤ 1000000) :
    Calls Try.prog 22 #[.slice A n c] w fun e w' => ∃ A' c', e = .returned (.slice A' (4 * n) c') ∧ w'.ownsRow w.heap.size 5 1 (.slice A' (4 * n) c') (4 * n) (bs (beL s)) ∧ Below w.heap.size w w' := by
  have H := Lib.hid h
  have HN := Lib.hid hn
  have HB := Lib.hid hb
  have hnB : (n : Int) ≤ 1000000 := by omega
  clear h hn hb
  obtain ⟨i0, hi0, hz0, hz1, hz2⟩ := info_parts Try.infoB
  have Hi0 := Lib.hid hi0; have Hz0 := Lib.hid hz0; have Hz1 := Lib.hid hz1
  clear hi0 hz0 hz1 hz2
  go_enter Try.func22, Try.ntmps22
  go_wp2_with fail
  go_loopw [3, 4] (fun v i w' => ∃ (k : Nat) (A' : Option Addr) (c' : Nat), k ≤ n ∧ i = .int .i64 (k : Nat) ∧ v = .slice A' (4 * k) c' ∧ Hid (w'.ownsRow w.heap.size 5 1 (.slice A' (4 * k) c') (4 * k) (bs (beL (s.take k)))) ∧ Hid (Below w.heap.size w w')) (fun _ i _ => n - (intOf i).toNat)
  case atStart => exact ⟨0, none, 0, Nat.zero_le _, rfl, rfl, World.ownsRow_nil _ _ _ _, Below.refl _ _⟩
  case round =>
    obtain ⟨k, A', c', hk, rfl, rfl, Ho, Hb⟩ := hrel
    by_cases hlt : k < n
    · have hkI : (k : Int) < n := by omega
      have hk0 : (0 : Int) ≤ (k : Int) := by omega
      have hks : k < s.length := by have := HN.out; omega
      have hget : (wl s)[k]? = some (.int .u32 (wv s[k])) := by simp [wl, hks]
      obtain ⟨ad, rfl, hcell⟩ := H.out k _ hget
      have hblk : (ad.add k).block < w.heap.size := block_lt_of hcell
      have hcw : Hid (wr.drew.cell? (ad.add k) = some (.int .u32 (wv s[k]))) := cell_fr hcell ((Fr.of_below (M := NoB) Hb.out).drew) id
      have hxb := wv_lt s[k]
      have Hd := Lib.hid (show wr.drew.ownsRow w.heap.size 5 1 (.slice A' (4 * k) c') (4 * k) (bs (beL (s.take k))) from Ho.out)
      have Hbd : Hid (Below w.heap.size w wr.drew) := ⟨Hb.out.os, Hb.out.tape, Hb.out.output, Hb.out.size, Hb.out.block⟩
      have Htk : Hid (beL (s.take (k + 1)) = beL (s.take k) ++ beB s[k]) := by show _ = _; rw [List.take_succ_eq_append_getElem hks, beL_append]; simp [beL]
      clear Ho Hb
      go_wp2_with fail
      refine wp_calm ?_
      refine wp_region_os (fun _ w' => w'.cell? (ad.add k) = some (.int .u32 (wv s[k]))) [4, 10, 16, 22]
        (.move 0 (.move 1 (.move 2 (.move 3 (.take 4 (.move 5 (.move 6 (.move 7 (.move 8 (.move 9 (.take 10 (.move 11 (.move 12 (.move 13 (.move 14 (.move 15 (.take 16 (.move 17 (.move 18 (.move 19 (.move 20 (.move 21 (.take 22 (.move 23 (.run 24 [4, 10, 16, 22] (.run 25 [4, 10, 16, 22] (.move 26 .done))))))))))))))))))))))))))) (by kernel_rfl) (by kernel_rfl) (fun _ _ _ _ _ h => nomatch h.1) ?_
      iterate 4 (
        refine os_move rfl rfl rfl (Nat.le_of_ble_eq_true rfl) ?_
        apply Exists.intro
        refine ⟨fun w' K hK => ?_, ?_⟩
        (focus
          go_simp
          exact hK))
      refine os_yld hcw.out rfl rfl rfl (Nat.le_of_ble_eq_true rfl) ?_
      apply Exists.intro
      refine ⟨fun w' hS' K hK => ?_, ?_⟩
      (focus
        have hS2 : (fun w' => w'.cell? (ad.add k) = some (.int .u32 (wv s[k]))) w' := hS'
        clear hS'
        try dsimp only at hS2
        go_simp
        exact hK)
      iterate 5 (
        refine os_move rfl rfl rfl (Nat.le_of_ble_eq_true rfl) ?_
        apply Exists.intro
        refine ⟨fun w' K hK => ?_, ?_⟩
        (focus
          go_simp
          exact hK))
      refine os_yld hcw.out rfl rfl rfl (Nat.le_of_ble_eq_true rfl) ?_
      apply Exists.intro
      refine ⟨fun w' hS' K hK => ?_, ?_⟩
      (focus
        have hS2 : (fun w' => w'.cell? (ad.add k) = some (.int .u32 (wv s[k]))) w' := hS'
        clear hS'
        try dsimp only at hS2
        go_simp
        exact hK)
      iterate 5 (
        refine os_move rfl rfl rfl (Nat.le_of_ble_eq_true rfl) ?_
        apply Exists.intro
        refine ⟨fun w' K hK => ?_, ?_⟩
        (focus
          go_simp
          exact hK))
      refine os_yld hcw.out rfl rfl rfl (Nat.le_of_ble_eq_true rfl) ?_
      apply Exists.intro
      refine ⟨fun w' hS' K hK => ?_, ?_⟩
      (focus
        have hS2 : (fun w' => w'.cell? (ad.add k) = some (.int .u32 (wv s[k]))) w' := hS'
        clear hS'
        try dsimp only at hS2
        go_simp
        exact hK)
      iterate 5 (
        refine os_move rfl rfl rfl (Nat.le_of_ble_eq_true rfl) ?_
        apply Exists.intro
        refine ⟨fun w' K hK => ?_, ?_⟩
        (focus
          go_simp
          exact hK))
      refine os_yld hcw.out rfl rfl rfl (Nat.le_of_ble_eq_true rfl) ?_
      apply Exists.intro
      refine ⟨fun w' hS' K hK => ?_, ?_⟩
      (focus
        have hS2 : (fun w' => w'.cell? (ad.add k) = some (.int .u32 (wv s[k]))) w' := hS'
        clear hS'
        try dsimp only at hS2
        go_simp
        exact hK)
      refine os_move rfl rfl rfl (Nat.le_of_ble_eq_true rfl) ?_
      apply Exists.intro
      refine ⟨fun w' K hK => ?_, ?_⟩
      (focus
        go_simp
        exact hK)
      refine os_run rfl rfl (fun K hK => ?_)
      go_wp2_with fail
      have r4 : Hid (Rd (wr.alloc (.cells #[.int .u8 (wv s[k] / 16777216), .int .u8 (wv s[k] / 65536 % 256), .int .u8 (wv s[k] / 256 % 256), .int .u8 (wv s[k] % 256)] 5)).drew (some ⟨wr.heap.size, 0, none⟩) (bs (beB s[k]))) := by
        have h : Rd (wr.alloc (.cells (bs (beB s[k])).toArray 5)) (some ⟨wr.heap.size, 0, none⟩) (bs (beB s[k])) := by simpa using Rd.of_block (heap_alloc_new wr (.cells (bs (beB s[k])).toArray 5))
        show Rd _ _ _
        rw [beB_cells]
        exact h
      have Hd2 : Hid ((wr.alloc (.cells #[.int .u8 (wv s[k] / 16777216), .int .u8 (wv s[k] / 65536 % 256), .int .u8 (wv s[k] / 256 % 256), .int .u8 (wv s[k] % 256)] 5)).drew.ownsRow w.heap.size 5 1 (.slice A' (4 * k) c') (4 * k) (bs (beL (s.take k)))) := Hd.out.alloc _
      have Hb2 : Hid (Below w.heap.size w (wr.alloc (.cells #[.int .u8 (wv s[k] / 16777216), .int .u8 (wv s[k] / 65536 % 256), .int .u8 (wv s[k] / 256 % 256), .int .u8 (wv s[k] % 256)] 5)).drew) := Hbd.out.alloc Hbd.out.size _
      refine ⟨fun _ _ h => Lib.cell?_alloc_marked _ h, ?_⟩
      generalize (wr.alloc (.cells #[.int .u8 (wv s[k] / 16777216), .int .u8 (wv s[k] / 65536 % 256), .int .u8 (wv s[k] / 256 % 256), .int .u8 (wv s[k] % 256)] 5)).drew = w2 at r4 Hd2 Hb2 ⊢
      clear Hd Hbd hcw
      have hlB : Hid ((beB s[k]).length = 4) := rfl
      refine os_run rfl rfl (fun K hK => ?_)
      refine wp_append_bytes (.tmp 11) (.tmp 35) rfl w.heap.size A' (4 * k) c' (beL (s.take k)) rfl Hd2.out (some ⟨wr.heap.size, 0, none⟩) 4 4 (beB s[k]) rfl hlB.out r4.out (by have := HB.out; omega) Hb2.out.size ?_
      intro A3 c3 w3 hown3 hg3 _
      have hM : ¬ (fun j => some j = (Value.slice A' (4 * k) c').ownBlock) (ad.add k).block := by
        intro h
        have := (Hd2.out.lt _ h.symm).1
        omega
      refine hK _ _ ⟨fun _ _ h => cell_fr h (Fr.of_grown hg3) hM, ?_⟩
      have Ho3 : Hid (w3.ownsRow w.heap.size 5 1 (.slice A3 (4 * (k + 1)) c3) (4 * (k + 1)) (bs (beL (s.take (k + 1))))) := by rw [Htk.out]; exact hown3
      have Hb3 : Hid (Below w.heap.size w w3) := Hb2.out.grown hg3 Hb2.out.size (fun j hj => (Hd2.out.lt j hj).1)
      clear hown3 hg3 hM Hd2 Hb2 r4 Htk hlB hK hcell hblk hget
      refine os_move rfl rfl rfl (Nat.le_of_ble_eq_true rfl) ?_
      apply Exists.intro
      refine ⟨fun w' K hK => ?_, ?_⟩
      (focus
        go_simp
        exact hK)
      refine os_done ⟨rfl, ?_⟩
      go_wp2_with fail
      go_roundw
      case rel => exact ⟨k + 1, A3, c3, by omega, by go_num, rfl, Ho3.out, Hb3.out⟩
      case measure => simp [intOf]; omega
    · have hkI : decide ((k : Int) < n) = false := decide_eq_false (by omega)
      have hkn : k = n := by omega
      subst hkn
      go_wp2_with fail
      go_ret
      refine ⟨A', c', rfl, ?_, Hb.out⟩
      have h := Ho.out
      rw [List.take_of_length_le (by rw [HN.out]; exact Nat.le_refl _)] at h
      exact h
end Go.Proofs.Ytobbcnajmocpfaa
