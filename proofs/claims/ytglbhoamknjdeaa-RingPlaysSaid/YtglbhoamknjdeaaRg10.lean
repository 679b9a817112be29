/- The ring's slots: the walk. -/
import Derived.Test.YtglbhoamknjdeaaRg9
import Derived.Test.YtglbhoamknjdeaaRgSh
import Derived.Test.YtglbhoamknjdeaaHas
import Derived.Test.YtglbhoamknjdeaaArr
namespace Go.Proofs.Ytglbhoamknjdeaa
open Go.RowKit Go.Maps Go.Sort Go.Shelf
attribute [local go_sem] yld yldUpon_value

theorem Try.sorts (m : Nat) : AnyZI.SortsIn Try.prog Try.sortedA_ren Fence.wide m :=
  ⟨fun blk off cap ss W hH hblk hsz => callsIn_wide.2 (AnyM.slices_Sort_int Try.sortA blk off cap ss W hH hblk hsz),
   fun p cap W => callsIn_wide.2 (AnyM.slices_Sort_int_none Try.sortA p cap W)⟩
theorem keys_any (mb : Option Nat) (W : World) : Calls Try.prog 34 #[.map mb] W fun e w' => e = .returned (.func (.func 37) #[] #[.pointer (some ⟨W.heap.size, 0, none⟩)]) ∧ w' = W.alloc (.cells #[.map mb] 67) :=
  callsIn_wide.1 (AnyZI.keys_in Try.keysA Fence.wide 5 trivial rfl mb W)
theorem ownsRow_slice {w : World} {base e size n : Nat} {v : Value} {xs : List Value} (h : w.ownsRow base e size v n xs) : ∃ A c, v = .slice A n c := by
  rcases h.2 with ⟨h1, h2⟩ | ⟨g, cap, cur, hv, _⟩
  · rw [h1, h2]
    exact ⟨none, 0, rfl⟩
  · exact ⟨_, _, hv⟩
theorem sorted_any {w : World} {hb nn : Nat} {D : DataW Unit} (hown : w.ownsMap Try.prog 3 (plainElem Try.prog 3) hb nn D) (hmax : Maps.size D ≤ 100000) :
    Calls Try.prog 33 #[.func (.func 37) #[] #[.pointer (some ⟨w.heap.size, 0, none⟩)]] (w.alloc (.cells #[.map (some hb)] 67)) fun e w' => ∃ (A : Option Addr) (c : Nat) (ss : List Int), e = .returned (.slice A ss.length c) ∧ ss.Perm (intKeys D) ∧
      w'.ownsRow w.heap.size 3 1 (.slice A ss.length c) ss.length ((ss.mergeSort leI).map encZ) ∧ Below w.heap.size w w' := by
  have hbl := hown.lt
  have hseq : SeqGives Fence.wide 2 Try.prog 37 #[.pointer (some ⟨w.heap.size, 0, none⟩)] encZ (fun ss => ss.Perm (intKeys D)) (Maps.size D) (w.alloc (.cells #[.map (some hb)] 67)) :=
    AnyZI.keys_gives (ρ := Try.keysA_ren) { Try.keysA with } Fence.wide _ trivial rfl (by omega) w.heap.size hb nn D _ (by simp) (by simp) (by
      obtain ⟨es, clock, hb', Ft, hs, hD⟩ := hown
      exact ⟨es, clock, (Below.heap_alloc _ _ hb hbl).trans hb', Ft, hs, hD⟩)
  have cS := callsIn_wide.1 (AnyZI.sorted_in Try.sortedA Fence.wide 5 trivial trivial trivial trivial rfl (by omega) (Try.sorts _) (enters_of Try.func36 (by kernel_rfl) rfl) 37 #[.pointer (some ⟨w.heap.size, 0, none⟩)] trivial (enters_of Try.func37 (by kernel_rfl) rfl) _ _ (Nat.le_trans hmax (by decide)) (by omega) _ hseq)
  refine Calls.mono cS ?_
  rintro e w' ⟨v, ss, rfl, hS, hrow, _, hbel⟩
  obtain ⟨A, c, rfl⟩ := ownsRow_slice hrow
  exact ⟨A, c, ss, rfl, hS, own_mono hrow (by simp), ((Below.refl _ w).alloc (Nat.le_refl _) _).trans (hbel.mono (by simp))⟩

theorem Try.intLaw : Keyed Try.prog 3 := int_keyed Try.underlying3
/-- where the loop stands -/
structure SlotI (w wr : World) (L : List (Wk × Hd)) (sh : Bool) (m r hb : Nat) (left : Lit → Bool) (cnt : Nat) (D : DataW Unit) : Prop where
  rg : wr.ranges Try.prog 60 hR m r L.length (ringD L) left cnt
  le : cnt ≤ L.length
  own : wr.ownsMap Try.prog 3 (plainElem Try.prog 3) hb (L.length - cnt) D
  lf : ∀ l, left l = true → ∃ p ∈ L, litOf p.1 = l
  has : ∀ z, Maps.has D (.int .i64 z) = true ↔ ∃ p ∈ L, left (litOf p.1) = false ∧ p.2.shred = sh ∧ p.2.slot = z
  bel : Below w.heap.size w wr
  new : w.heap.size ≤ r ∧ w.heap.size ≤ hb ∧ r ≠ hb ∧ m < w.heap.size
theorem SlotI.b {w wr wx : World} {L : List (Wk × Hd)} {sh : Bool} {m r hb : Nat} {left : Lit → Bool} {cnt : Nat} {D : DataW Unit} (h : SlotI w wr L sh m r hb left cnt D) (hx : Below wr.heap.size wr wx) : SlotI w wx L sh m r hb left cnt D := by
  have hg : wr.grownBy wx none := ⟨hx.os, hx.tape, hx.output, hx.size, fun k hk _ => hx.block k hk⟩
  exact ⟨h.rg.kept hg (by simp) (by simp), h.le, h.own.kept hg (by simp), h.lf, h.has, Below.tr h.bel hx, h.new⟩
/-- an entry has come -/
theorem SlotI.step {w wr w1 w2 : World} {L : List (Wk × Hd)} {sh : Bool} {m hb : Nat} {left : Lit → Bool} {cnt cnt1 : Nat} {D : DataW Unit} {x : Option Int} {o : Obj} {k : Wk} {s1 s2 : Int} {s3 : Bool} {kl : Lit} {r : Nat}
    (h : SlotI w wr L sh m r hb left cnt D) (hp : (k, (⟨s1, s2, s3⟩ : Hd)) ∈ L) (hl : litOf k = kl) (hk : WideAt.IsKeyLit kl) (hu : ∀ q ∈ L, litOf q.1 = kl → q.2 = ⟨s1, s2, s3⟩)
    (hrg : w1.ranges Try.prog 60 hR m r L.length (ringD L) (fun z => left z && !z.sameKey kl) cnt1) (hlt : cnt1 < cnt) (hg : wr.grownBy w1 (some r)) (hsz : w1.heap.size = wr.heap.size)
    (hx : (∃ v, x = some v ∧ v = s1 ∧ s3 = sh ∧ w2.ownsMap Try.prog 3 (plainElem Try.prog 3) hb (L.length - cnt + 1) (D.put (.int .i64 s1) (.lit (.int .i64 1))) ∧ (w1.alloc o).grownBy w2 (some hb)) ∨ (x = none ∧ ¬ s3 = sh ∧ w2 = w1.alloc o)) :
    SlotI w w2 L sh m r hb (fun z => left z && !z.sameKey kl) cnt1 (x.elim D (fun v => D.put (.int .i64 v) (.lit (.int .i64 1)))) := by
  have hb1 : Below w.heap.size w w1 := h.bel.grown hg h.bel.size (fun j hj => by injection hj with hj; have := h.new; omega)
  have hne : ∀ l, (left l && !l.sameKey kl) = false ↔ left l = false ∨ l = kl := by
    intro l
    rw [Bool.and_eq_false_iff, Bool.not_eq_false', WideAt.sameKey_iff hk]
  have hlf : ∀ l, (left l && !l.sameKey kl) = true → ∃ p ∈ L, litOf p.1 = l := fun l hl => h.lf l (by rw [Bool.and_eq_true] at hl; exact hl.1)
  rcases hx with ⟨v, rfl, rfl, rfl, ho, hg2⟩ | ⟨rfl, hsh, rfl⟩
  · have hm1 : m < w1.heap.size := by have := h.new; have := hb1.size; omega
    refine ⟨(hrg.alloc o).kept hg2 (fun e => by injection e with e; have := h.new; omega) (fun e => by injection e with e; exact h.new.2.2.1 e), by have := h.le; omega, ho.mono (by have := h.le; omega), hlf, fun z => ?_, (hb1.alloc hb1.size o).grown hg2 (by have := hb1.size; simp; omega) (fun j hj => by injection hj with hj; have := h.new; omega), h.new⟩
    have hD : IsMap D := ((h.own.entries Try.intLaw).elim fun es h => ⟨es, h.1⟩)
    simp only [Option.elim_some]
    by_cases hz : z = v
    · subst hz
      rw [has_put_same hD (show WideAt.IsKeyLit (.int .i64 z) from trivial)]
      exact ⟨fun _ => ⟨_, hp, (hne _).2 (.inr hl), rfl, rfl⟩, fun _ => rfl⟩
    · rw [has_put_other (show Lit.int .i64 z ≠ Lit.int .i64 v by intro e; injection e with _ e; exact hz e), h.has z]
      constructor
      · rintro ⟨p, h1, h2, h3⟩; exact ⟨p, h1, (hne _).2 (.inl h2), h3⟩
      · rintro ⟨p, h1, h2, h3, h4⟩
        rcases (hne _).1 h2 with h2 | h2
        · exact ⟨p, h1, h2, h3, h4⟩
        · have h5 := hu p h1 h2
          rw [h5] at h4
          exact absurd h4.symm hz
  · refine ⟨hrg.alloc o, by have := h.le; omega, ((h.own.kept hg (by intro e; injection e with e; exact h.new.2.2.1 e.symm)).alloc o).mono (by have := h.le; omega), hlf, fun z => ?_, hb1.alloc hb1.size o, h.new⟩
    simp only [Option.elim_none]
    rw [h.has z]
    constructor
    · rintro ⟨p, h1, h2, h3⟩; exact ⟨p, h1, (hne _).2 (.inl h2), h3⟩
    · rintro ⟨p, h1, h2, h3, h4⟩
      rcases (hne _).1 h2 with h2 | h2
      · exact ⟨p, h1, h2, h3, h4⟩
      · have h5 := hu p h1 h2
        rw [h5] at h3
        exact absurd h3 hsh
set_option maxRecDepth 100000 in
set_option maxHeartbeats 4000000 in
theorem slots_any (w : World) (b m : Nat) (L : List (Wk × Hd)) (h : RingAt w b m L) (hL : L.length ≤ 100000) (hs : SlotsOk L) (sh : Bool) :
    Calls Try.prog 29 #[.pointer (some ⟨b, 0, none⟩), .bool sh] w fun e w' => ∃ A n c, e = .returned (.slice A n c) ∧ w'.ownsRow w.heap.size 3 1 (.slice A n c) n ((slotsL L sh).map encZ) ∧ Below w.heap.size w w' := by
  have H := Lib.hid h; have HS := Lib.hid hs; have HL := Lib.hid hL
  have hmm := @run_makeMap Try.prog
  have c0 := h.cell
  have hlt := h.lt.1
  have hltm := Lib.hid h.lt.2
  clear h hs hL
  obtain ⟨iH, hiH⟩ : ∃ i, Try.prog.info? 30 = some i := by
    cases hh : Try.prog.info? 30 with
    | none => have := Try.infoH; rw [hh] at this; cases this
    | some i => exact ⟨i, rfl⟩
  have hzH : iH.zero = some (hV hd0) ∧ iH.size = 3 := by have := Try.infoH; rw [hiH] at this; simpa using this
  have HiH := Lib.hid hiH; have HzH := Lib.hid hzH.1
  clear hiH hzH
  go_enter Try.func29, Try.ntmps29
  go_wp2_with (first
    | (at_range; refine wpList_range_own _ rfl _ 56 rfl 60 30 Try.whoLaw Try.underlying56 hR m L.length (ringD L) rfl (ring_owns (H.out.bel (Below.al w _)) (Nat.le_trans HL.out (by decide))) ?_; intro w0 hrg0 hg0 hs0)
    | go_in)
  go_frame
  have I0 : Hid (SlotI w w0 L sh m (w.heap.size + 1) w.heap.size (Maps.has (ringD L)) (Maps.size (ringD L)) (.map [])) := by
    have e1 : (w.alloc (.map #[] 0)).heap.size = w.heap.size + 1 := by simp
    rw [e1] at hrg0
    refine ⟨hrg0, by rw [ring_size]; exact Nat.le_refl _, ((World.ownsMap_made _ _ _ _).kept hg0 (by simp)).mono (Nat.zero_le _), fun l hl => ring_has hl, fun z => ?_, ((Below.refl _ _).alloc (Nat.le_refl _) _).grown hg0 (by simp) (fun j hj => by cases hj), by omega, by omega, by omega, hltm.out⟩
    constructor
    · intro h; cases h
    · rintro ⟨p, hp, h1, _⟩
      rw [ring_has2 H.out.fit hp] at h1; cases h1
  have s1 : (w.alloc (.map #[] 0)).heap.size = w.heap.size + 1 := by simp
  rw [s1]
  clear hrg0 hg0 hs0 s1 c0 hlt hmm
  go_loopw [7] (fun _ wr => ∃ (left : Lit → Bool) (cnt : Nat) (D : DataW Unit), Hid (SlotI w wr L sh m (w.heap.size + 1) w.heap.size left cnt D)) (fun _ wr => wr.rangeLeft m (w.heap.size + 1))
  case atStart => exact ⟨_, _, _, I0⟩
  case round =>
    obtain ⟨left, cnt, D, I⟩ := hrel
    clear I0
    go_wp2_with (first
      | (at_next; refine wpList_next_ranges _ rfl _ rfl 60 Try.whoLaw hR (fun v : Value => v) hV (fun key kl _ => ⟨key, rfl⟩) hR_inv m (w.heap.size + 1) L.length (ringD L) left cnt rfl I.out.rg ?_ ?_)
      | go_in)
    · intro hc0 hl0
      have ho := Lib.hid I.out.own
      have hb := Lib.hid I.out.bel
      have hp : (slotsL L sh).Perm (intKeys D) := CollectedI.perm (left := fun _ => false) ⟨slotsL_nodup L sh, fun z => by
        rw [slotsL_mem HS.out, I.out.has z]
        constructor
        · rintro ⟨p, hp, h1, h2⟩; exact ⟨⟨p, hp, hl0 _, h1, h2⟩, rfl⟩
        · rintro ⟨⟨p, hp, _, h1, h2⟩, _⟩; exact ⟨p, hp, h1, h2⟩⟩ I.out.own Try.intLaw Try.underlying3 (fun _ => rfl)
      have hsz : Hid (Maps.size D ≤ 100000) := by
        have h1 := hp.length_eq
        have h2 := slotsL_le L sh
        have h3 : (intKeys D).length = Maps.size D := by cases D <;> simp [intKeys, Maps.size]
        show _ ≤ _; omega
      have Hp := Lib.hid hp
      clear hp hl0 I
      go_wp2_with fail
      refine (keys_any _ _).mono ?_
      rintro e w1 ⟨rfl, rfl⟩
      go_wp2_with fail
      refine (sorted_any ho.out hsz.out).mono ?_
      rintro e w2 ⟨A, c, ss, rfl, hperm, hrow, hbl⟩
      rw [slotsL_sort (Hp.out.trans hperm.symm)] at hrow
      go_wp2_with fail
      go_ret
      exact ⟨A, _, c, rfl, own_mono hrow hb.out.size, Below.tr hb.out hbl⟩
    · intro x c kl d ps w1 cnt1 hkk hlk hy hat hrg1 hlt hg1 hs1 hen
      obtain rfl : d = encH c := by rw [hR_mk] at hy; injection hy with hy; injection hy with hy _; exact hy.symm
      obtain ⟨p0, hp0, hl0⟩ := I.out.lf kl hlk
      obtain rfl : p0.2 = c := by
        have h1 := ring_at H.out.fit H.out.nodup hp0 .nil
        rw [hl0, hat] at h1
        exact (encH_inj h1).symm
      have Hp0 := Lib.hid hp0; have Hl0 := Lib.hid hl0
      have hsl := Lib.hid (HS.out p0 hp0)
      obtain ⟨kp, s1, s2, s3⟩ := p0
      have hsl2 : Hid (1 ≤ s1 ∧ s1 ≤ 64) := hsl
      have own1 := Lib.hid (I.out.own.kept hg1 (by simp))
      have Hrg := Lib.hid hrg1; have Hlt := Lib.hid hlt; have Hg := Lib.hid hg1; have Hs := Lib.hid hs1
      have Hlk := Lib.hid hlk
      clear hkk hlk hy hat hrg1 hlt hg1 hs1 hp0 hl0 hsl
      simp only [hV, hC] at hen
      have W : Hid (WideAt.IsKeyLit kl) := by rw [← Hl0.out]; exact litOf_key (H.out.fit _ Hp0.out)
      have U : Hid (∀ q ∈ L, litOf q.1 = kl → q.2 = ⟨s1, s2, s3⟩) := by
        intro q hq e
        have h1 := ring_at H.out.fit H.out.nodup hq .nil
        have h2 := ring_at H.out.fit H.out.nodup Hp0.out .nil
        rw [e] at h1
        rw [Hl0.out, h1] at h2
        exact encH_inj h2
      by_cases hsh : s3 = sh
      · subst hsh
        go_wp2_with (first
          | (at_mapUpdate; refine wpList_mapUpdate_own _ rfl _ _ _ 67 rfl 3 3 Try.intLaw Try.underlying67 _ w.heap.size (L.length - cnt) D rfl (own1.out.alloc _) (Nat.lt_of_le_of_lt (Nat.sub_le _ _) (Nat.lt_of_le_of_lt HL.out (by decide))) _ _ _ rfl rfl (keyOf_int_mk Try.underlying3 (WalkArith.wf_i64 (by have := hsl2.out; omega))) _ [] (plainElem_int Try.underlying3 (by decide)) ?_; intro w2 hout2 hg2; go_frame)
          | go_in)
        have I2 := Lib.hid (I.out.step (x := some s1) Hp0.out Hl0.out W.out U.out Hrg.out Hlt.out Hg.out Hs.out (.inl ⟨s1, rfl, rfl, rfl, hout2, hg2⟩))
        go_roundw
        case rel => exact ⟨_, _, _, I2⟩
        case measure => rw [I2.out.rg.left_eq, I.out.rg.left_eq]; exact Hlt.out
      · have hsf : (s3 == sh) = false := by simpa using hsh
        go_wp2_with go_in
        have I2 := Lib.hid (I.out.step (x := none) (o := .cells #[.int .i64 s1, .int .i64 s2, .bool s3] 30) Hp0.out Hl0.out W.out U.out Hrg.out Hlt.out Hg.out Hs.out (.inr ⟨rfl, hsh, rfl⟩))
        go_roundw
        case rel => exact ⟨_, _, _, I2⟩
        case measure => rw [I2.out.rg.left_eq, I.out.rg.left_eq]; exact Hlt.out

theorem Live_any (w : World) (b m : Nat) (L : List (Wk × Hd)) (h : RingAt w b m L) (hL : L.length ≤ 100000) (hs : SlotsOk L) :
    Calls Try.prog 20 #[.pointer (some ⟨b, 0, none⟩)] w fun e w' => ∃ A n c, e = .returned (.slice A n c) ∧ w'.ownsRow w.heap.size 3 1 (.slice A n c) n ((slotsL L false).map encZ) ∧ Below w.heap.size w w' := by
  go_enter Try.func20, Try.ntmps20
  go_wp2_with fail
  refine (slots_any w b m L h hL hs false).mono ?_
  rintro e w1 ⟨A, n, c, rfl, ho, hb⟩
  go_wp2_with fail
  go_ret
  exact ⟨A, n, c, rfl, ho, hb⟩
theorem Dead_any (w : World) (b m : Nat) (L : List (Wk × Hd)) (h : RingAt w b m L) (hL : L.length ≤ 100000) (hs : SlotsOk L) :
    Calls Try.prog 21 #[.pointer (some ⟨b, 0, none⟩)] w fun e w' => ∃ A n c, e = .returned (.slice A n c) ∧ w'.ownsRow w.heap.size 3 1 (.slice A n c) n ((slotsL L true).map encZ) ∧ Below w.heap.size w w' := by
  go_enter Try.func21, Try.ntmps21
  go_wp2_with fail
  refine (slots_any w b m L h hL hs true).mono ?_
  rintro e w1 ⟨A, n, c, rfl, ho, hb⟩
  go_wp2_with fail
  go_ret
  exact ⟨A, n, c, rfl, ho, hb⟩
end Go.Proofs.Ytglbhoamknjdeaa
