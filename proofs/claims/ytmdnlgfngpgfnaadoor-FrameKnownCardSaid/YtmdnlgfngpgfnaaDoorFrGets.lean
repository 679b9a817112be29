/- FrameGets' walk. -/
import Derived.Test.YtmdnlgfngpgfnaaDoorFrRS
import Derived.Test.YtmdnlgfngpgfnaaDoorFrSame
namespace Go.Proofs.YtmdnlgfngpgfnaaDoor
open Go.RowKit

set_option maxRecDepth 100000 in
set_option maxHeartbeats 4000000 in
theorem FrameGets_any (w : World) (hS : Steps w) (A1 : Option Addr) (n c1 : Nat) (l : List UInt8) (h1 : Sl w (Old w) A1 n c1 l) (b1 : n ≤ 140737488355000) :
    Calls Tryd.prog 7 #[.slice A1 n c1] w fun e w' => e = .returned (.bool true) ∧ Below w.heap.size w w' := by
  have HS := Lib.hid hS; have H1 := Lib.hid h1; have L1 := Lib.hid h1.len
  clear hS h1
  by_cases hlong : 8192 < n
  · have hI : (8192 : Int) < (n : Int) := by omega
    go_enter Tryd.func7, Tryd.ntmps7
    go_wp2_with fail
    refine (works_any w HS.out).mono ?_
    rintro e w3 ⟨rfl, hb3⟩
    go_wp2_with fail
    go_ret
    exact ⟨rfl, hb3⟩
  · have hI : ¬ (8192 : Int) < (n : Int) := by omega
    have Hn : Hid (n ≤ 8192) := by show _ ≤ _; omega
    have hpos := HS.out.pos
    have HN := Lib.hid (scan_len l)
    have hfs : Hid ((gotF l).length = (scanP l).length ∧ ∀ f ∈ gotF l, f.2.length ≤ 140737488355328) := ⟨by simp [gotF], fun f hf => by
      simp only [gotF, List.mem_map] at hf
      obtain ⟨g, hg, rfl⟩ := hf
      obtain ⟨i, hi, rfl⟩ := List.getElem_of_mem hg
      have h1 := scan_at l hi
      have h2 := getP_fit (restF l i) (by rw [h1.1]; exact h1.2)
      rw [h1.1] at h2
      show (scanP l)[i].body.length ≤ _
      omega⟩
    go_enter Tryd.func7, Tryd.ntmps7
    go_wp2_with fail
    refine (LentBytes_sl H1.out (fun k hk => hk) (by omega)).mono ?_
    rintro e w1 ⟨gx, cx, rfl, hown1, hb1⟩
    have Hb1 := Lib.hid hb1; have Ho1 := Lib.hid hown1
    have hz1 := hb1.size
    have HS1 := Lib.hid (HS.out.below hb1 hpos)
    have hcx : n + 5 ≤ cx := (Sl.of_own hown1).cap
    have hcxI : (n : Int) ≤ (cx : Int) := by omega
    have Sx1 := Lib.hid ((Sl.of_own hown1).mono (G := fun j => w.heap.size ≤ j ∧ j < w1.heap.size) (fun k hk => ⟨hk.1, hk.2.1⟩))
    have Sx : Hid (Sl w1 (fun j => w.heap.size ≤ j ∧ j < w1.heap.size) (some ⟨gx, 0, none⟩) n cx l) := Sx1.out.take_ L1.out
    have H11 := Lib.hid (H1.out.fr (Fr.of_below (M := NoB) hb1) (fun k hk => ⟨hk, id⟩))
    clear hb1 hown1
    go_wp2_with fail
    refine (Get_any HS1.out Sx.out (fun k hk => hk.2) (by have := Hn.out; omega) _ rfl).mono ?_
    rintro e w2 ⟨A2, n2, c2, rfl, hown2, hb2⟩
    unfold gotV
    generalize hG : getP l = G at *
    have HG := Lib.hid hG
    obtain ⟨Ge, Gk, Gb, Gn⟩ := G
    have Ho2 := Lib.hid hown2
    have Hb2 : Hid (Below w1.heap.size w1 (w2.alloc (.cells #[.int .i64 Gk, .slice A2 n2 c2] 34))) := hb2.alloc hb2.size _
    have hz2 := hb2.size
    have hx2 : Hid ((w2.alloc (.cells #[.int .i64 Gk, .slice A2 n2 c2] 34)).heap[w2.heap.size]? = some (.cells #[.int .i64 Gk, .slice A2 n2 c2] 34 (0, 0))) := heap_alloc_new w2 _
    have hz2' : Hid ((w2.alloc (.cells #[.int .i64 Gk, .slice A2 n2 c2] 34)).heap.size = w2.heap.size + 1) := by show _ = _; simp
    have Ho2' := Lib.hid (Ho2.out.alloc (.cells #[.int .i64 Gk, .slice A2 n2 c2] 34))
    clear hown2 hb2 hG
    go_wp2_with fail
    generalize hw2 : w2.alloc (.cells #[.int .i64 Gk, .slice A2 n2 c2] 34) = v2 at *
    clear hw2
    have H12 := Lib.hid (H11.out.fr (Fr.of_below (M := NoB) Hb2.out) (fun k hk => ⟨Nat.lt_of_lt_of_le hk hz1, id⟩))
    refine (RefGet_any H12.out (fun k hk => Nat.lt_of_lt_of_le hk (Nat.le_trans hz1 Hb2.out.size)) (by have := Hn.out; omega)).mono ?_
    rw [HG.out]
    rintro e w3 ⟨A3, n3, c3, rfl, hown3, hb3⟩
    unfold gotV
    have Ho3 := Lib.hid hown3
    have hz3 := hb3.size
    have Hb3 : Hid (Below v2.heap.size v2 (w3.alloc (.cells #[.int .i64 Gk, .slice A3 n3 c3] 34))) := hb3.alloc hb3.size _
    have hx3 : Hid ((w3.alloc (.cells #[.int .i64 Gk, .slice A3 n3 c3] 34)).heap[w3.heap.size]? = some (.cells #[.int .i64 Gk, .slice A3 n3 c3] 34 (0, 0))) := heap_alloc_new w3 _
    have hz3' : Hid ((w3.alloc (.cells #[.int .i64 Gk, .slice A3 n3 c3] 34)).heap.size = w3.heap.size + 1) := by show _ = _; simp
    have Ho3' := Lib.hid (Ho3.out.alloc (.cells #[.int .i64 Gk, .slice A3 n3 c3] 34))
    clear hown3 hb3
    go_wp2_with fail
    generalize hw3 : w3.alloc (.cells #[.int .i64 Gk, .slice A3 n3 c3] 34) = v3 at *
    clear hw3
    have Hb13 : Hid (Below w1.heap.size w1 v3) := Hb2.out.trans (Hb3.out.mono Hb2.out.size)
    have Sx3 := Lib.hid (Sx.out.fr (Fr.of_below (M := NoB) Hb13.out) (fun k hk => ⟨hk.2, id⟩))
    have HS3 := Lib.hid (HS1.out.below Hb13.out HS1.out.pos)
    refine (Scan_any HS3.out Sx3.out (fun k hk => Nat.lt_of_lt_of_le hk.2 Hb13.out.size) (by have := Hn.out; omega)).mono ?_
    rintro e w4 ⟨A4, c4, cs4, D4, rfl, hown4, hfr4, hD4, hb4⟩
    have Ho4 := Lib.hid hown4; have Hf4 := Lib.hid hfr4; have HD4 := Lib.hid hD4; have Hb4 := Lib.hid hb4
    have hz4 := hb4.size
    have Hb14 : Hid (Below w1.heap.size w1 w4) := Hb13.out.trans (hb4.mono Hb13.out.size)
    have Sx4 := Lib.hid (Sx.out.fr (Fr.of_below (M := NoB) Hb14.out) (fun k hk => ⟨hk.2, id⟩))
    have HS4 := Lib.hid (HS1.out.below Hb14.out HS1.out.pos)
    clear hown4 hfr4 hD4 hb4
    go_wp2_with fail
    refine (Scan_any HS4.out Sx4.out (fun k hk => Nat.lt_of_lt_of_le hk.2 Hb14.out.size) (by have := Hn.out; omega)).mono ?_
    rintro e w5 ⟨A5, c5, cs5, D5, rfl, hown5, hfr5, hD5, hb5⟩
    have Ho5 := Lib.hid hown5; have Hf5 := Lib.hid hfr5; have HD5 := Lib.hid hD5; have Hb5 := Lib.hid hb5
    have hz5 := hb5.size
    have Hb15 : Hid (Below w1.heap.size w1 w5) := Hb14.out.trans (hb5.mono Hb14.out.size)
    have H15 := Lib.hid (H11.out.fr (Fr.of_below (M := NoB) Hb15.out) (fun k hk => ⟨Nat.lt_of_lt_of_le hk hz1, id⟩))
    clear hown5 hfr5 hD5 hb5
    go_wp2_with fail
    refine (RefScan_any H15.out (fun k hk => Nat.lt_of_lt_of_le hk (Nat.le_trans hz1 Hb15.out.size)) (by have := Hn.out; omega)).mono ?_
    rintro e w6 ⟨A6, c6, cs6, D6, rfl, hown6, hfr6, hD6, hb6⟩
    have Ho6 := Lib.hid hown6; have Hf6 := Lib.hid hfr6; have HD6 := Lib.hid hD6; have Hb6 := Lib.hid hb6
    have hz6 := hb6.size
    clear hown6 hfr6 hD6 hb6
    have hNle : Hid ((scanP l).length ≤ 1000) := by have := HN.out; have := L1.out; have := Hn.out; show _ ≤ _; omega
    generalize (scanP l).length = N at *
    generalize atF l N = T at *
    have Hb26 : Hid (Below v2.heap.size v2 w6) := ((Hb3.out.trans (Hb4.out.mono Hb3.out.size)).trans (Hb5.out.mono (Nat.le_trans Hb3.out.size hz4))).trans (Hb6.out.mono (Nat.le_trans (Nat.le_trans Hb3.out.size hz4) hz5))
    have Hb36 : Hid (Below v3.heap.size v3 w6) := (Hb4.out.trans (Hb5.out.mono hz4)).trans (Hb6.out.mono (Nat.le_trans hz4 hz5))
    have bx2 : Hid (w6.heap[w2.heap.size]? = some (.cells #[.int .i64 Gk, .slice A2 n2 c2] 34 (0, 0))) := (Hb26.out.block _ (by have := hz2'.out; omega)).trans hx2.out
    have bx3 : Hid (w6.heap[w3.heap.size]? = some (.cells #[.int .i64 Gk, .slice A3 n3 c3] 34 (0, 0))) := (Hb36.out.block _ (by have := hz3'.out; omega)).trans hx3.out
    have q0 : w6.cell? ⟨w2.heap.size, 0, none⟩ = some (.int .i64 Gk) := by rw [cell_of_row w6 _ 0 _ _ _ bx2.out]; rfl
    have q1 : w6.cell? ⟨w2.heap.size, 1, none⟩ = some (.slice A2 n2 c2) := by rw [cell_of_row w6 _ 1 _ _ _ bx2.out]; rfl
    have q2 : w6.cell? ⟨w3.heap.size, 0, none⟩ = some (.int .i64 Gk) := by rw [cell_of_row w6 _ 0 _ _ _ bx3.out]; rfl
    have q3 : w6.cell? ⟨w3.heap.size, 1, none⟩ = some (.slice A3 n3 c3) := by rw [cell_of_row w6 _ 1 _ _ _ bx3.out]; rfl
    have hf2 := Lib.hid (own_fr Ho2'.out (Fr.of_below (M := NoB) Hb26.out) (fun _ _ e => e))
    have hf3 := Lib.hid (own_fr Ho3'.out (Fr.of_below (M := NoB) Hb36.out) (fun _ _ e => e))
    have hGb : Hid (n2 ≤ 9223372036854775807 ∧ n3 ≤ 9223372036854775807 ∧ n2 ≤ 140737488355328) := by
      have h1 := Ho2.out.1; have h2 := Ho3.out.1
      rw [bs_length] at h1 h2
      have hg : Gb.length ≤ n := by
        have e := HG.out
        have hd : (getP l).body = Gb := by rw [e]
        rw [← hd]
        have := L1.out
        unfold getP
        split
        · simp
        · split
          · simp
          · show ((l.drop 5).take _).length ≤ _
            rw [List.length_take, List.length_drop]; omega
      have := Hn.out
      exact ⟨by omega, by omega, by omega⟩
    go_wp2_with fail
    refine (Same_at (Sl.of_own hf2.out) (Sl.of_own hf3.out) hGb.out.1 hGb.out.2.1 true (by simp)).mono ?_
    rintro e w7 ⟨rfl, m7, hw7⟩
    have Hb67 : Hid (Below w6.heap.size w6 w7) := by rw [hw7]; exact below_drewN (Below.refl _ _) m7
    clear hw7 q0 q1 q2 q3
    go_wp2_with fail
    have hz7 := Hb67.out.size
    have HzA : Hid (w.heap.size ≤ w1.heap.size ∧ w1.heap.size ≤ w2.heap.size ∧ w2.heap.size + 1 = v2.heap.size ∧ v2.heap.size ≤ w3.heap.size ∧ w3.heap.size + 1 = v3.heap.size ∧ v3.heap.size ≤ w4.heap.size ∧ w4.heap.size ≤ w5.heap.size ∧ w5.heap.size ≤ w6.heap.size ∧ w6.heap.size ≤ w7.heap.size) :=
      ⟨hz1, hz2, hz2'.out.symm, hz3, hz3'.out.symm, hz4, hz5, hz6, hz7⟩
    have Hb47 : Hid (Below w4.heap.size w4 w7) := (Hb5.out.trans (Hb6.out.mono hz5)).trans (Hb67.out.mono (Nat.le_trans hz5 hz6))
    have Hb57 : Hid (Below w5.heap.size w5 w7) := Hb6.out.trans (Hb67.out.mono hz6)
    have Hb17 : Hid (Below w1.heap.size w1 w7) := (Hb15.out.trans (Hb6.out.mono Hb15.out.size)).trans (Hb67.out.mono (Nat.le_trans Hb15.out.size hz6))
    have O4 := Lib.hid (own_fr Ho4.out (Fr.of_below (M := NoB) Hb47.out) (fun _ _ e => e))
    have F4 := Lib.hid (Hf4.out.fr (Fr.of_below (M := NoB) Hb47.out) (fun _ _ => id))
    have O5 := Lib.hid (own_fr Ho5.out (Fr.of_below (M := NoB) Hb57.out) (fun _ _ e => e))
    have F5 := Lib.hid (Hf5.out.fr (Fr.of_below (M := NoB) Hb57.out) (fun _ _ => id))
    have O6 := Lib.hid (own_fr Ho6.out (Fr.of_below (M := NoB) Hb67.out) (fun _ _ e => e))
    have F6 := Lib.hid (Hf6.out.fr (Fr.of_below (M := NoB) Hb67.out) (fun _ _ => id))
    have O2 := Lib.hid (own_fr hf2.out (Fr.of_below (M := NoB) Hb67.out) (fun _ _ e => e))
    have X7 := Lib.hid (Sx1.out.fr (Fr.of_below (M := NoB) Hb17.out) (fun k hk => ⟨hk.2, id⟩))
    have H17 := Lib.hid (H11.out.fr (Fr.of_below (M := NoB) Hb17.out) (fun k hk => ⟨Nat.lt_of_lt_of_le hk hz1, id⟩))
    have HS7 := Lib.hid (HS1.out.below Hb17.out HS1.out.pos)
    have bx7 : Hid (w7.heap[w2.heap.size]? = some (.cells #[.int .i64 Gk, .slice A2 n2 c2] 34 (0, 0))) := (Hb67.out.block _ (by have := HzA.out; omega)).trans bx2.out
    have HN' : Hid (N ≤ 140737488355328 ∧ N ≤ 100000000000000) := by have := hNle.out; exact ⟨by omega, by omega⟩
    refine (SameFrames_any O4.out F4.out O6.out F6.out hfs.out.1 hfs.out.2 HN'.out.1).mono ?_
    rintro e w8 ⟨rfl, m8, hw8⟩
    have Hb78 : Hid (Fr NoB w7 w8) := by rw [hw8]; exact (Fr.refl _ _).drewN m8
    have bx8 : Hid (w8.heap[w2.heap.size]? = some (.cells #[.int .i64 Gk, .slice A2 n2 c2] 34 (0, 0))) := by show _ = _; rw [hw8]; exact bx7.out
    have q1 : w8.cell? ⟨w2.heap.size, 1, none⟩ = some (.slice A2 n2 c2) := by rw [cell_of_row w8 _ 1 _ _ _ bx8.out]; rfl
    clear hw8
    have O28 := Lib.hid (own_fr O2.out Hb78.out (fun _ _ e => e))
    go_wp2_with fail
    refine (SpoilBytes_any _ A2 n2 c2 n2 _ w8 O28.out (Nat.le_refl _) hGb.out.2.2).mono ?_
    rintro e w9 ⟨rfl, hg9⟩
    have hlo2 : Hid (∀ j, (Value.slice A2 n2 c2).ownBlock = some j → w1.heap.size ≤ j ∧ j < w2.heap.size) := fun j hj => Ho2.out.lt j hj
    have Hf79 : Hid (Fr (fun j => w1.heap.size ≤ j ∧ j < w2.heap.size) w7 w9) := (Hb78.out.mono fun _ _ h => h.elim).trans (Fr.of_grown hg9) (fun j _ e => hlo2.out j e.symm)
    clear hg9 q1
    have O49 := Lib.hid (own_fr O4.out Hf79.out (fun j hj => by have := (Ho4.out.lt j hj).1; have := HzA.out; omega))
    have F49 := Lib.hid (F4.out.fr Hf79.out (fun j hj => by have := HD4.out j hj; have := HzA.out; omega))
    go_wp2_with fail
    refine (SpoilFramesDeep_any O49.out F49.out hfs.out.1 (fun j hj => (HD4.out j hj).2.2) hfs.out.2 HN'.out.2).mono ?_
    rintro e w10 ⟨rfl, hf10⟩
    have Hf710 : Hid (Fr (fun j => (w1.heap.size ≤ j ∧ j < w2.heap.size) ∨ (v3.heap.size ≤ j ∧ j < w4.heap.size)) w7 w10) := (Hf79.out.mono fun _ _ h => .inl h).trans hf10 (fun j _ e => by
      right
      rcases e with e | e
      · have := HD4.out j e; omega
      · exact Ho4.out.lt j e.symm)
    clear hf10
    have O510 := Lib.hid (own_fr O5.out Hf710.out (fun j hj => by have := (Ho5.out.lt j hj).1; have := HzA.out; omega))
    have F510 := Lib.hid (F5.out.fr Hf710.out (fun j hj => by have := HD5.out j hj; have := HzA.out; omega))
    have O610 := Lib.hid (own_fr O6.out Hf710.out (fun j hj => by have := (Ho6.out.lt j hj).1; have := HzA.out; omega))
    have F610 := Lib.hid (F6.out.fr Hf710.out (fun j hj => by have := HD6.out j hj; have := HzA.out; omega))
    have X10 := Lib.hid (X7.out.fr Hf710.out (fun j hj => by have := HzA.out; exact ⟨by omega, by omega⟩))
    have H110 := Lib.hid (H17.out.fr Hf710.out (fun j hj => by have hj : j < w.heap.size := hj; have := HzA.out; exact ⟨by omega, by omega⟩))
    have HS10 := Lib.hid (HS7.out.fr Hf710.out (by have := HS.out.pos; have := HzA.out; omega))
    have HbF : Hid (Below w.heap.size w w10) := (Hb1.out.trans (Hb17.out.mono hz1)).trans (Fr.to_below' Hf710.out (fun j hj => by have := HzA.out; omega) (by have := HzA.out; omega))
    have hz10 := Hf710.out.size
    go_wp2_with fail
    refine (SameFrames_any O510.out F510.out O610.out F610.out hfs.out.1 hfs.out.2 HN'.out.1).mono ?_
    rintro e w11 ⟨rfl, m11, hw11⟩
    have Hb11 : Hid (Fr NoB w10 w11) := by rw [hw11]; exact (Fr.refl _ _).drewN m11
    clear hw11
    have X11 := Lib.hid (X10.out.fr Hb11.out (fun j hj => by have := HzA.out; exact ⟨by omega, id⟩))
    have H111 := Lib.hid (H110.out.fr Hb11.out (fun j hj => by have hj : j < w.heap.size := hj; have := HzA.out; exact ⟨by omega, id⟩))
    have hz11 := Hb11.out.size
    go_wp2_with fail
    refine (KeptBytes_sl X11.out (fun j hj => by have := HzA.out; omega) H111.out (fun j hj => by have hj : j < w.heap.size := hj; have := HzA.out; omega) (by have := Hn.out; omega)).mono ?_
    rintro e w12 ⟨rfl, hb12⟩
    have Hb12 := Lib.hid hb12
    have HbG : Hid (Below w.heap.size w w12) := (HbF.out.trans (Fr.to_below' Hb11.out (fun _ _ h => h) HbF.out.size)).trans (hb12.mono (by have := HbF.out.size; omega))
    have HS12 := Lib.hid ((HS10.out.fr Hb11.out id).below hb12 (by have := HS.out.pos; have := HbF.out.size; omega))
    clear hb12
    go_wp2_with fail
    refine (works_any w12 HS12.out).mono ?_
    rintro e w13 ⟨rfl, hb13⟩
    go_wp2_with fail
    go_ret
    exact ⟨rfl, HbG.out.trans (hb13.mono HbG.out.size)⟩
end Go.Proofs.YtmdnlgfngpgfnaaDoor
