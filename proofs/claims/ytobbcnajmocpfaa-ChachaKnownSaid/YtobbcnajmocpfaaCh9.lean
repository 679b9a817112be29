/- works: the published block. -/
import Derived.Test.YtobbcnajmocpfaaCh8
namespace Go.Proofs.Ytobbcnajmocpfaa
open Go.RowKit

def nonce9 : List UInt8 := [0, 0, 0, 9, 0, 0, 0, 74, 0, 0, 0, 0]
def want16 : List (BitVec 32) := [284288996, 3510327573, 1343216927, 2736812484, 3352425671, 868247555, 69380762, 3285478478, 3531760710, 127904265, 348313349, 3649766050, 3037895889, 3726003897, 3419440104, 2723167310]
set_option maxRecDepth 100000 in
theorem published : blockP countedL 1 nonce9 = beL want16 := by kernel_rfl
theorem want16_len : want16.length = 16 := rfl
theorem Try.infoO2 : (Try.prog.info? 27).map (fun i => (i.zero, i.size, i.bytes)) = some (some (.agg (bs (List.replicate 64 0)).toArray), 64, 64) := Try.infoO

set_option maxRecDepth 100000 in
set_option maxHeartbeats 4000000 in
theorem works_any (w : World) :
    Calls Try.prog 11 #[] w fun e w' => e = .returned (.bool true) ∧ Below w.heap.size w w' := by
  obtain ⟨io, hio, hzo, _, _⟩ := info_parts Try.infoO
  have Hio := Lib.hid hio; have Hzo := Lib.hid hzo
  clear hio hzo
  go_enter Try.func11, Try.ntmps11
  go_wp2_with fail
  refine (counted_any w).mono ?_
  rintro e w1 ⟨rfl, hb1⟩
  have Hb1 := Lib.hid hb1
  clear hb1
  go_wp2_with fail
  refine (Block_any w1 countedL nonce9 1 countedL_len rfl).mono ?_
  rintro e w2 ⟨rfl, hb2⟩
  rw [published]
  have Hb2 : Hid (Below w.heap.size w w2) := Hb1.out.trans (hb2.mono Hb1.out.size)
  clear hb2 Hb1
  have iO : Hid ((Try.prog.info? 27).map (·.size) = some (bs (beL want16)).length) := by rw [bs_length, beL_len]; exact Try.sizeO
  go_wp2_with (first
    | ((with_reducible refine lst_alloc_d 1 rfl 27 rfl io _ Hio.out Hzo.out ?_ ?_)
       (focus rfl)
       intro g3 w3 Hg3 Hh3 hb3
       have Hb3 : Hid (Below w.heap.size w w3) := Hb2.out.trans (hb3.mono Hb2.out.size)
       have Hg3' : Hid (w.heap.size ≤ g3 ∧ g3 < w3.heap.size) := by
         have := Hg3.out; have := Hb2.out.size
         show _ ∧ _
         omega
       have Hh3' : Hid (w3.heap[g3]? = some (.cells (bs (List.replicate 64 0)).toArray 27 (0, 0))) := Hh3
       clear hb3 Hb2 Hg3 Hh3)
    | ((with_reducible refine lst_store_abs 27 (.tmp 1) (.tmp 5) rfl g3 27 (bs (List.replicate 64 0)).toArray (bs (beL want16)).toArray rfl rfl Hh3'.out (by simpa using iO.out) rfl (by simp; exact bs_oneCell _) ?_ ?_)
       (focus rfl)
       intro w4 Hh4 hg4
       have Hb4 : Hid (Below w.heap.size w w4) := Hb3.out.grown hg4 Hb3.out.size (fun j hj => by injection hj with hj; have := Hg3'.out; omega)
       have Hg4 : Hid (g3 < w4.heap.size) := by have := hg4.size; have := Hg3'.out; show _ < _; omega
       clear hg4 Hg3' Hb3 Hh3'))
  have s4 : Hid (Sl w4 (fun k => k = g3) (some ⟨g3, 0, none⟩) 64 64 (beL want16)) := Sl.of_block Hh4.out rfl 64 (by rw [beL_len]; rfl)
  have r5 : Hid (Rd (w4.alloc (.cells #[.int .u32 284288996, .int .u32 3510327573, .int .u32 1343216927, .int .u32 2736812484, .int .u32 3352425671, .int .u32 868247555, .int .u32 69380762, .int .u32 3285478478, .int .u32 3531760710, .int .u32 127904265, .int .u32 348313349, .int .u32 3649766050, .int .u32 3037895889, .int .u32 3726003897, .int .u32 3419440104, .int .u32 2723167310] 24)) (some ⟨w4.heap.size, 0, none⟩) (wl want16)) := by
    have h := Rd.of_block (heap_alloc_new w4 (.cells #[.int .u32 284288996, .int .u32 3510327573, .int .u32 1343216927, .int .u32 2736812484, .int .u32 3352425671, .int .u32 868247555, .int .u32 69380762, .int .u32 3285478478, .int .u32 3531760710, .int .u32 127904265, .int .u32 348313349, .int .u32 3649766050, .int .u32 3037895889, .int .u32 3726003897, .int .u32 3419440104, .int .u32 2723167310] 24))
    exact h
  have Hb5 : Hid (Below w.heap.size w (w4.alloc (.cells #[.int .u32 284288996, .int .u32 3510327573, .int .u32 1343216927, .int .u32 2736812484, .int .u32 3352425671, .int .u32 868247555, .int .u32 69380762, .int .u32 3285478478, .int .u32 3531760710, .int .u32 127904265, .int .u32 348313349, .int .u32 3649766050, .int .u32 3037895889, .int .u32 3726003897, .int .u32 3419440104, .int .u32 2723167310] 24))) := Hb4.out.alloc Hb4.out.size _
  have s5 : Hid (Sl (w4.alloc (.cells #[.int .u32 284288996, .int .u32 3510327573, .int .u32 1343216927, .int .u32 2736812484, .int .u32 3352425671, .int .u32 868247555, .int .u32 69380762, .int .u32 3285478478, .int .u32 3531760710, .int .u32 127904265, .int .u32 348313349, .int .u32 3649766050, .int .u32 3037895889, .int .u32 3726003897, .int .u32 3419440104, .int .u32 2723167310] 24)) (fun k => k = g3) (some ⟨g3, 0, none⟩) 64 64 (beL want16)) := s4.out.fr ((Fr.refl NoB w4).alloc _) (fun k hk => ⟨by rw [hk]; exact Hg4.out, id⟩)
  have hz5 : Hid (g3 < (w4.alloc (.cells #[.int .u32 284288996, .int .u32 3510327573, .int .u32 1343216927, .int .u32 2736812484, .int .u32 3352425671, .int .u32 868247555, .int .u32 69380762, .int .u32 3285478478, .int .u32 3531760710, .int .u32 127904265, .int .u32 348313349, .int .u32 3649766050, .int .u32 3037895889, .int .u32 3726003897, .int .u32 3419440104, .int .u32 2723167310] 24)).heap.size) := by have := Hg4.out; show _ < _; simp; omega
  generalize w4.alloc (.cells #[.int .u32 284288996, .int .u32 3510327573, .int .u32 1343216927, .int .u32 2736812484, .int .u32 3352425671, .int .u32 868247555, .int .u32 69380762, .int .u32 3285478478, .int .u32 3531760710, .int .u32 127904265, .int .u32 348313349, .int .u32 3649766050, .int .u32 3037895889, .int .u32 3726003897, .int .u32 3419440104, .int .u32 2723167310] 24) = w5 at r5 Hb5 s5 hz5 ⊢
  refine (words_any w5 _ 16 16 want16 rfl r5.out (by decide)).mono ?_
  rintro e w6 ⟨A6, c6, rfl, hown6, hb6⟩
  have s6 := Lib.hid (Sl.of_own hown6)
  have s5' : Hid (Sl w6 (fun k => k = g3) (some ⟨g3, 0, none⟩) 64 64 (beL want16)) := s5.out.fr (Fr.of_below (M := NoB) hb6) (fun k hk => ⟨by rw [hk]; exact hz5.out, id⟩)
  have Hb6 : Hid (Below w.heap.size w w6) := Hb5.out.trans (hb6.mono Hb5.out.size)
  clear hown6 hb6 s5 hz5 Hb5 r5 s4 Hb4 Hg4 Hh4
  go_wp2_with fail
  refine (Same_at s5'.out s6.out (by decide) (by decide) true (by simp)).mono ?_
  rintro e w7 ⟨rfl, x, rfl⟩
  go_wp2_with fail
  go_ret
  exact ⟨rfl, below_drewN Hb6.out x⟩
end Go.Proofs.Ytobbcnajmocpfaa
