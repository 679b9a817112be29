/- Who follows, rising. -/
import Derived.Test.YtohaaejonlijeaaFe1
import Derived.Test.YtohaaejonlijeaaFeSh
import Derived.Maps.RangeWalk
import Derived.Maps.Ext
import Derived.Lib.SlKeysI
namespace Go.Proofs.Ytohaaejonlijeaa
open Go.RowKit Go.Maps Go.Sort Go.Shelf
attribute [local go_sem] yld yldUpon_value

theorem Try.sorts (m : Nat) : AnyZI.SortsIn Try.prog Try.sortedA_ren Fence.wide m :=
  ⟨fun blk off cap ss W hH hblk hsz => callsIn_wide.2 (AnyM.slices_Sort_int Try.sortA blk off cap ss W hH hblk hsz),
   fun p cap W => callsIn_wide.2 (AnyM.slices_Sort_int_none Try.sortA p cap W)⟩
theorem keys_any (mb : Option Nat) (W : World) : Calls Try.prog 29 #[.map mb] W fun e w' => e = .returned (.func (.func 33) #[] #[.pointer (some ⟨W.heap.size, 0, none⟩)]) ∧ w' = W.alloc (.cells #[.map mb] 45) :=
  callsIn_wide.1 (AnyZI.keys_in Try.keysA Fence.wide 5 trivial rfl mb W)
theorem ownsRow_slice {w : World} {base e size n : Nat} {v : Value} {xs : List Value} (h : w.ownsRow base e size v n xs) : ∃ A c, v = .slice A n c := by
  rcases h.2 with ⟨h1, h2⟩ | ⟨g, cap, cur, hv, _⟩
  · rw [h1, h2]
    exact ⟨none, 0, rfl⟩
  · exact ⟨_, _, hv⟩
theorem sorted_any {w : World} {hb nn : Nat} {D : DataW Unit} (hown : w.ownsMap Try.prog 3 pR hb nn D) (hmax : Maps.size D ≤ 100000) :
    Calls Try.prog 28 #[.func (.func 33) #[] #[.pointer (some ⟨w.heap.size, 0, none⟩)]] (w.alloc (.cells #[.map (some hb)] 45)) fun e w' => ∃ (A : Option Addr) (c : Nat) (ss : List Int), e = .returned (.slice A ss.length c) ∧ ss.Perm (intKeys D) ∧
      w'.ownsRow w.heap.size 3 1 (.slice A ss.length c) ss.length ((ss.mergeSort leI).map encZ) ∧ Below w.heap.size w w' := by
  have hbl := hown.lt
  have hseq : SeqGives Fence.wide 2 Try.prog 33 #[.pointer (some ⟨w.heap.size, 0, none⟩)] encZ (fun ss => ss.Perm (intKeys D)) (Maps.size D) (w.alloc (.cells #[.map (some hb)] 45)) :=
    AnyZI.keys_gives (ρ := Try.keysA_ren) { Try.keysA with } Fence.wide _ trivial rfl (by omega) w.heap.size hb nn D _ (by simp) (by simp) (by
      obtain ⟨es, clock, hb', Ft, hs, hD⟩ := hown
      exact ⟨es, clock, (Below.heap_alloc _ _ hb hbl).trans hb', Ft, hs, hD⟩)
  have cS := callsIn_wide.1 (AnyZI.sorted_in Try.sortedA Fence.wide 5 trivial trivial trivial trivial rfl (by omega) (Try.sorts _) (enters_of Try.func32 (by kernel_rfl) rfl) 33 #[.pointer (some ⟨w.heap.size, 0, none⟩)] trivial (enters_of Try.func33 (by kernel_rfl) rfl) _ _ (Nat.le_trans hmax (by decide)) (by omega) _ hseq)
  refine Calls.mono cS ?_
  rintro e w' ⟨v, ss, rfl, hS, hrow, _, hbel⟩
  obtain ⟨A, c, rfl⟩ := ownsRow_slice hrow
  exact ⟨A, c, ss, rfl, hS, own_mono hrow (by simp), ((Below.refl _ w).alloc (Nat.le_refl _) _).trans (hbel.mono (by simp))⟩

/-- who follows, rising -/
def whoL (fl : Int → Option Fl) : List Int := ((List.range 9).map fun i : Nat => (i : Int)).filter fun c => (fl c).isSome
theorem up9 : ((List.range 9).map fun i : Nat => (i : Int)).Pairwise (· < ·) := by
  rw [List.pairwise_map]
  exact List.pairwise_lt_range.imp fun {a b} h => by omega
theorem whoL_lt (fl : Int → Option Fl) : (whoL fl).Pairwise (· < ·) := up9.filter _
theorem whoL_nodup (fl : Int → Option Fl) : (whoL fl).Nodup := (whoL_lt fl).imp fun {a b} h e => by omega
theorem whoL_le (fl : Int → Option Fl) : (whoL fl).length ≤ 9 := by
  have h := List.length_filter_le (fun c => (fl c).isSome) ((List.range 9).map fun i : Nat => (i : Int))
  simpa [whoL] using h
theorem whoL_mem {fl : Int → Option Fl} (hr : ∀ c x, fl c = some x → 1 ≤ c ∧ c ≤ 8) (z : Int) : z ∈ whoL fl ↔ (fl z).isSome = true := by
  unfold whoL
  rw [List.mem_filter]
  constructor
  · exact fun h => h.2
  · intro h
    refine ⟨?_, h⟩
    obtain ⟨x, hx⟩ := Option.isSome_iff_exists.1 h
    have := hr z x hx
    rw [List.mem_map]
    exact ⟨z.toNat, by rw [List.mem_range]; omega, by omega⟩
theorem whoL_wf (fl : Int → Option Fl) : ∀ x ∈ whoL fl, (Lit.int .i64 x).wf = true := fun x hx => by
  unfold whoL at hx
  rw [List.mem_filter, List.mem_map] at hx
  obtain ⟨⟨i, hi, rfl⟩, _⟩ := hx
  rw [List.mem_range] at hi
  exact WalkArith.wf_i64 (by omega)
theorem whoL_sort {fl : Int → Option Fl} {ss : List Int} (h : (whoL fl).Perm ss) : ss.mergeSort leI = whoL fl := by
  rw [← mergeSort_of_perm_i h]
  exact List.mergeSort_of_pairwise ((whoL_lt fl).imp fun {a b} h => by simp [leI]; omega)
theorem Who_any (w : World) (f m N : Nat) (B : Int → Nat) (fl : Int → Option Fl) (h : FeedAt w f m N B fl) :
    Calls Try.prog 22 #[.pointer (some ⟨f, 0, none⟩)] w fun e w' => ∃ A n c, e = .returned (.slice A n c) ∧ w'.ownsRow w.heap.size 3 1 (.slice A n c) n ((whoL fl).map encZ) ∧ Below w.heap.size w w' := by
  obtain ⟨D, ho, hD⟩ := h.own
  have hp : (whoL fl).Perm (intKeys D) := CollectedI.perm (left := fun _ => false) ⟨whoL_nodup fl, fun z => by
    rw [whoL_mem h.rng, ← (hD z).1]
    exact ⟨fun h => ⟨h, rfl⟩, fun h => h.1⟩⟩ ho Try.zLaw Try.underlying3 (fun _ => rfl)
  have hsz : Hid (Maps.size D ≤ 100000) := by
    have h1 := hp.length_eq
    have h2 := whoL_le fl
    have h3 : (intKeys D).length = Maps.size D := by cases D <;> simp [intKeys, Maps.size]
    show _ ≤ _; omega
  have Hp := Lib.hid hp
  have HO := Lib.hid ho
  have c0 := h.cell
  have lf := block_lt_of c0
  clear hp hD ho h
  go_enter Try.func22, Try.ntmps22
  go_wp2_with fail
  refine (keys_any _ _).mono ?_
  rintro e w1 ⟨rfl, rfl⟩
  go_wp2_with fail
  refine (sorted_any HO.out hsz.out).mono ?_
  rintro e w2 ⟨A, c, ss, rfl, hperm, hrow, hbl⟩
  rw [whoL_sort (Hp.out.trans hperm.symm)] at hrow
  go_wp2_with fail
  go_ret
  exact ⟨A, _, c, rfl, hrow, hbl⟩
end Go.Proofs.Ytohaaejonlijeaa
