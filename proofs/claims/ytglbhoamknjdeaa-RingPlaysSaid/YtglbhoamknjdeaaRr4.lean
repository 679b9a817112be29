/- The reference's ring: slots. -/
import Derived.Test.YtglbhoamknjdeaaRr3
import Derived.Test.YtglbhoamknjdeaaKitI
import Derived.Test.YtglbhoamknjdeaaRg10
namespace Go.Proofs.Ytglbhoamknjdeaa
open Go.RowKit
attribute [local go_sem] yld yldUpon_value

/-- one slot is there -/
def hasS (L : List (Wk × Hd)) (sh : Bool) (z : Int) : Bool := L.any fun p => (p.2.shred == sh) && (p.2.slot == z)
/-- the slots below k + 1 -/
def slK (L : List (Wk × Hd)) (sh : Bool) (k : Nat) : List Int := ((List.range k).map fun i : Nat => ((i : Int) + 1)).filter (hasS L sh)
theorem slK_64 (L : List (Wk × Hd)) (sh : Bool) : slK L sh 64 = slotsL L sh := rfl
theorem slK_succ (L : List (Wk × Hd)) (sh : Bool) (k : Nat) : slK L sh (k + 1) = slK L sh k ++ (if hasS L sh ((k : Int) + 1) then [(k : Int) + 1] else []) := by
  unfold slK
  rw [List.range_succ, List.map_append, List.filter_append]
  congr 1
  simp only [List.map_cons, List.map_nil, List.filter_cons, List.filter_nil]
theorem slK_len (L : List (Wk × Hd)) (sh : Bool) (k : Nat) : (slK L sh k).length ≤ k := by
  have h := List.length_filter_le (hasS L sh) ((List.range k).map fun i : Nat => ((i : Int) + 1))
  simpa [slK] using h
theorem slK_wf (L : List (Wk × Hd)) (sh : Bool) (k : Nat) (hk : k ≤ 64) : ∀ x ∈ slK L sh k, (Lit.int .i64 x).wf = true := by
  intro x hx
  have h := (List.mem_filter.1 hx).1
  rw [List.mem_map] at h
  obtain ⟨i, hi, rfl⟩ := h
  rw [List.mem_range] at hi
  exact WalkArith.wf_i64 (by omega)
theorem any_take_succ (L : List (Wk × Hd)) (f : Wk × Hd → Bool) (i : Nat) (hi : i < L.length) : (L.take (i + 1)).any f = ((L.take i).any f || f L[i]) := by
  rw [List.take_succ_eq_append_getElem hi, List.any_append]; simp
theorem Try.infoInt : (Try.prog.info? 3).map (fun i => (i.zero, i.size, i.bytes)) = some (some (.int .i64 0), 1, 8) := by kernel_rfl
set_option maxRecDepth 100000 in
set_option maxHeartbeats 4000000 in
theorem rSlots_any {w : World} {lo g : Nat} {A : Option Addr} {n c : Nat} {L : List (Wk × Hd)} (h : RefAt w lo g A n c L) (hn : n ≤ 10000) (sh : Bool) :
    Calls Try.prog 31 #[.pointer (some ⟨g, 0, none⟩), .bool sh] w fun e w' => ∃ A' n' c', e = .returned (.slice A' n' c') ∧ w'.ownsRow w.heap.size 3 1 (.slice A' n' c') n' ((slotsL L sh).map (Value.int .i64)) ∧ Below w.heap.size w w' := by
  have H := Lib.hid h
  have HL := Lib.hid h.len
  have HN := Lib.hid hn
  clear h hn
  obtain ⟨iI, hiI, zI, sI, bI⟩ := info_parts Try.infoInt
  have HiI := Lib.hid hiI; have HzI := Lib.hid zI; have HsI := Lib.hid sI; have HbI := Lib.hid bI
  clear hiI zI sI bI
  have uI := Lib.hid Try.underlying22
  go_enter Try.func31, Try.ntmps31
  go_wp2_with fail
  go_loopw [5, 6] (fun o z wr => ∃ (k : Nat) (A' : Option Addr) (n' c' : Nat), k ≤ 64 ∧ z = .int .i64 ((k : Int) + 1) ∧ o = .slice A' n' c' ∧ Hid (wr.ownsRow w.heap.size 3 1 (.slice A' n' c') n' ((slK L sh k).map (Value.int .i64)) ∧ Below w.heap.size w wr)) (fun _ z _ => 65 - (intOf z).toNat)
  case atStart => exact ⟨0, none, 0, 0, by omega, rfl, rfl, World.ownsRow_nil _ _ _ _, Below.refl _ _⟩
  case round =>
    obtain ⟨k, A1, n1, c1, hk, rfl, rfl, hI⟩ := hrel
    have R := Lib.hid (H.out.bel hI.out.2)
    have hcell := R.out.cell
    by_cases hlt : k < 64
    · have hkI : (k : Int) + 1 ≤ 64 := by omega
      have hkI0 : (0 : Int) ≤ (k : Int) := by omega
      obtain ⟨z, hz⟩ : ∃ z : Int, (k : Int) + 1 = z := ⟨_, rfl⟩
      have hz1 : z ≤ 64 := by omega
      have hz0 : 1 ≤ z := by omega
      rw [hz]
      have HZ := Lib.hid hz
      clear hz hkI hkI0
      go_wp2_with fail
      go_loopw [7, 8] (fun b i w2 => ∃ j : Nat, j ≤ n ∧ i = .int .i64 (j : Nat) ∧ b = .bool (hasS (L.take j) sh z) ∧ wr = w2) (fun _ i _ => n - (intOf i).toNat)
      case atStart => exact ⟨0, Nat.zero_le _, rfl, rfl, rfl⟩
      case round =>
        obtain ⟨j, hj, rfl, rfl, rfl⟩ := hrel
        by_cases hjn : j < n
        · have hjI : (j : Int) < (n : Int) := by omega
          have hj0 : (0 : Int) ≤ (j : Int) := by omega
          have hjL : j < L.length := by have := HL.out; omega
          have HJ := Lib.hid hjn
          have hnb : n ≤ 10000 := HN.out
          obtain ⟨gb, hA, _, hc⟩ := R.out.row hjL
          subst hA
          obtain ⟨⟨k0, s1, s2, s3⟩, hp⟩ : ∃ p, L[j] = p := ⟨_, rfl⟩
          rw [hp] at hc
          have c2 : wr.cell? ⟨gb, j * 5 + 2, none⟩ = some (.int .i64 s1) := hc 2 _ (by decide) rfl
          have c4 : wr.cell? ⟨gb, j * 5 + 2 + 2, none⟩ = some (.bool s3) := hc 4 _ (by decide) rfl
          have hst : Hid (hasS (L.take (j + 1)) sh z = (hasS (L.take j) sh z || ((s3 == sh) && (s1 == z)))) := by
            show _ = _
            unfold hasS
            rw [any_take_succ L _ j hjL, hp]
          clear hc hp
          obtain ⟨b0, hb0⟩ : ∃ b, hasS (L.take j) sh z = b := ⟨_, rfl⟩
          rw [hb0] at hst ⊢
          clear hb0
          have fin : ∀ b, (b0 || ((s3 == sh) && (s1 == z))) = b → Hid (hasS (L.take (j + 1)) sh z = b) := fun b e => hst.out.trans e
          cases b0 with
          | true =>
            have F := fin true (by simp)
            clear fin hst
            go_wp2_with fail
            go_roundw
            case rel => exact ⟨j + 1, by have := HJ.out; omega, by go_num, by rw [F.out], by first | rfl | trivial⟩
            case measure => simp [intOf]; have := HJ.out; omega
          | false =>
            cases hq : (s1 == z) with
            | false =>
              have F := fin false (by rw [hq]; simp)
              clear fin hst
              go_wp2_with fail
              go_roundw
              case rel => exact ⟨j + 1, by have := HJ.out; omega, by go_num, by rw [F.out], by first | rfl | trivial⟩
              case measure => simp [intOf]; have := HJ.out; omega
            | true =>
              cases hq2 : (s3 == sh) with
              | false =>
                have F := fin false (by rw [hq, hq2]; rfl)
                clear fin hst
                go_wp2_with fail
                go_roundw
                case rel => exact ⟨j + 1, by have := HJ.out; omega, by go_num, by rw [F.out], by first | rfl | trivial⟩
                case measure => simp [intOf]; have := HJ.out; omega
              | true =>
                have F := fin true (by rw [hq, hq2]; rfl)
                clear fin hst
                go_wp2_with fail
                go_roundw
                case rel => exact ⟨j + 1, by have := HJ.out; omega, by go_num, by rw [F.out], by first | rfl | trivial⟩
                case measure => simp [intOf]; have := HJ.out; omega
        · have hjn2 : j = n := by omega
          have hall : Hid (hasS (L.take j) sh z = hasS L sh z) := by
            show _ = _
            rw [hjn2, ← HL.out, List.take_length]
          rw [hall.out]
          obtain ⟨b0, hb0⟩ : ∃ b, hasS L sh z = b := ⟨_, rfl⟩
          have HB0 := Lib.hid hb0
          rw [hb0]
          clear hb0 hall hjn2
          have hsz : Hid (n1 ≤ 64) := by
            have h1 := hI.out.1.1
            have h2 := slK_len L sh k
            rw [List.length_map] at h1
            show _ ≤ _; omega
          cases b0 with
          | false =>
            have e1 : Hid (slK L sh (k + 1) = slK L sh k) := by
              show _ = _
              rw [slK_succ, HZ.out, HB0.out]; simp
            go_wp2_with fail
            go_roundw
            case rel => exact ⟨k + 1, A1, n1, c1, by omega, by rw [← HZ.out]; go_num, rfl, Lib.hid ⟨by rw [e1.out]; exact hI.out.1, hI.out.2⟩⟩
            case measure => rw [← HZ.out]; simp [intOf]; omega
          | true =>
            have e1 : Hid (slK L sh (k + 1) = slK L sh k ++ [z]) := by
              show _ = _
              rw [slK_succ, HZ.out, HB0.out]; simp
            go_wp2_with (first
              | (at_builtin
                 refine wpList_plain rfl fun _ hK => wp_append_rd _ (.tmp 50) (.tmp 52) 22 rfl w.heap.size 3 iI _ 1 8 uI.out HiI.out HzI.out HsI.out HbI.out rfl (by decide) (.slice A1 n1 c1) n1 _ rfl (own_fr hI.out.1 (Fr.of_below (M := NoB) (Below.al wr _)) (fun _ _ e => e)) (some ⟨wr.heap.size, 0, none⟩) 1 1 [.int .i64 z] rfl rfl (Rd.of_block (heap_alloc_new wr (.cells #[.int .i64 z] 3))) (by intro u hu; simp at hu; subst hu; rfl) (by have := hsz.out; unfold maxLen; omega) (by have := hsz.out; omega) (by have := hI.out.2.size; rw [World.size_alloc]; omega) fun A' c' w1 ho hg hor => hK _ _ ?_
                 have O1 := Lib.hid ho; have G1 := Lib.hid hg
                 clear ho hg hor))
            have I1 : Hid (w1.ownsRow w.heap.size 3 1 (.slice A' (n1 + 1) c') (n1 + 1) ((slK L sh (k + 1)).map (Value.int .i64)) ∧ Below w.heap.size w w1) := by
              refine ⟨by rw [e1.out, List.map_append]; exact O1.out, ?_⟩
              have hb := Below.tr hI.out.2 (Below.al wr (.cells #[.int .i64 z] 3))
              exact hb.grown G1.out hb.size (fun j hj => (hI.out.1.lt j hj).1)
            clear O1 G1 e1 hI
            go_roundw
            case rel => exact ⟨k + 1, A', n1 + 1, c', by omega, by rw [← HZ.out]; go_num, rfl, I1⟩
            case measure => rw [← HZ.out]; simp [intOf]; omega
    · have hk64 : k = 64 := by omega
      subst hk64
      go_wp2_with fail
      go_ret
      have h1 := hI.out.1
      rw [slK_64] at h1
      exact ⟨A1, n1, c1, rfl, h1, hI.out.2⟩
end Go.Proofs.Ytglbhoamknjdeaa
