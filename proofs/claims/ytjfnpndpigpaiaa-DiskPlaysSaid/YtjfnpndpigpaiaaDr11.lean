/- DiskPlays. -/
import Derived.Test.YtjfnpndpigpaiaaDr10
import Derived.Test.YtjfnpndpigpaiaaDk15
namespace Go.Proofs.Ytjfnpndpigpaiaa
open Go.RowKit
attribute [local go_sem] yld yldUpon_value

set_option maxRecDepth 100000 in
set_option maxHeartbeats 4000000 in
theorem DiskPlays_any (w : World) (room : Int) (_ : (Lit.int .i64 room).wf = true) {A : Option Addr} {n c : Nat} {ps : List OpO} (h : OpOSl w (Old w) A n c ps) (_ : n ≤ 140737488355000) :
    Calls Try.prog 6 #[.int .i64 room, .slice A n c] w fun e w' => e = .returned (.bool true) ∧ Below w.heap.size w w' := by
  have H := Lib.hid h
  have HL := Lib.hid h.len
  clear h
  have uO := Lib.hid Try.underlying54
  have iO : Hid (∀ y : OpO, (Try.prog.info? 54).map (·.size) = some y.cells.length) := Lib.hid (fun y => by rw [OpO.cells_len]; kernel_rfl)
  go_enter Try.func6, Try.ntmps6
  go_wp2_with fail
  refine (New_any w room).mono ?_
  rintro e w1 ⟨g, vs, rfl, hd, hb, hg, hft⟩
  have D1 := Lib.hid hd; have B1 := Lib.hid hb; have G1 := Lib.hid hft
  clear hd hb hg hft
  go_wp2_with fail
  refine (RNew_any w1 room).mono ?_
  rintro e w2 ⟨gr, rfl, hr, hb2, hgr⟩
  have T2 : Hid (Two w w2 g (newD room) vs gr (newD room) NoB) := by
    refine ⟨D1.out.bel hb2, hr, DOK.new room, DOK.new room, fun k hk => ⟨G1.out k hk, Nat.lt_of_lt_of_le (D1.out.foot_lt hk) hb2.size⟩, fun k hk => ?_, fun k hk e => ?_, Below.tr B1.out hb2⟩
    · rcases hk with hk | hk
      · rw [hk]; exact ⟨Nat.le_trans B1.out.size hgr, hr.gt⟩
      · exact hk.elim
    · rcases e with e | e
      · have := D1.out.foot_lt hk; omega
      · exact e.elim
  have N0 : Hid ((newD room).done = 0) := rfl
  obtain ⟨D0, hD0⟩ : ∃ D0, D0 = newD room := ⟨_, rfl⟩
  rw [← hD0] at T2 N0
  clear hr hb2 hgr D1 B1 G1 hD0
  go_wp2_with fail
  go_loopw [7] (fun iv wr => ∃ (k : Nat) (D : DD) (vs : Vs) (R : Nat → Prop), k ≤ 80 ∧ k ≤ n ∧ iv = .int .i64 (k : Nat) ∧ Hid (Two w wr g D vs gr D R ∧ D.done ≤ k)) (fun iv _ => 80 - (intOf iv).toNat)
  case atStart => exact ⟨0, D0, vs, NoB, Nat.zero_le _, Nat.zero_le _, rfl, T2.out, Nat.le_of_eq N0.out⟩
  case round =>
    clear T2 N0
    obtain ⟨k, D, vs1, R, hk, hkn, rfl, I⟩ := hrel
    have hk0 : (0 : Int) ≤ (k : Int) := by omega
    have T := Lib.hid I.out.1
    have HD : Hid (D.done ≤ k) := I.out.2
    clear I
    by_cases hlt : k < n ∧ k < 80
    · obtain ⟨h1, h2⟩ := hlt
      have h1I : (k : Int) < (n : Int) := by omega
      have h2I : (k : Int) < 80 := by omega
      have hkl : k < ps.length := by rw [HL.out]; exact h1
      obtain ⟨b, o, rfl, hb, hok, hr⟩ := (H.out.bel T.out.bel (fun _ h => h)).at_ k hkl
      obtain ⟨y, hy⟩ : ∃ y, y = ps[k] := ⟨_, rfl⟩
      rw [← hy] at hok hr
      have HOK := Lib.hid hok
      have HR := Lib.hid hr
      obtain ⟨dn, hdn⟩ : ∃ dn, dn = y.dtn := ⟨_, rfl⟩
      obtain ⟨kn, hkn'⟩ : ∃ kn, kn = y.kpn := ⟨_, rfl⟩
      have c3 : wr.cell? ⟨b, o + k * 5 + 3, none⟩ = some (.slice y.dtA dn y.dtc) := by rw [hdn]; exact hr 3 _ rfl
      have c4 : wr.cell? ⟨b, o + k * 5 + 4, none⟩ = some (.slice y.kpA kn y.kpc) := by rw [hkn']; exact hr 4 _ rfl
      have HDN := Lib.hid hdn; have HKN := Lib.hid hkn'
      have iy := Lib.hid (iO.out y)
      clear hy hok hr hdn hkn' hb
      by_cases hbig : 4096 < dn
      · have hbI : (4096 : Int) < (dn : Int) := by omega
        go_wp2_with fail
        refine (known_any wr).mono ?_
        rintro e w' ⟨rfl, hb⟩
        go_wp2_with fail
        go_ret
        exact ⟨rfl, Below.tr T.out.bel hb⟩
      · have hbI : ¬ (4096 : Int) < (dn : Int) := by omega
        by_cases hbig2 : 100 < kn
        · have hbI2 : (100 : Int) < (kn : Int) := by omega
          go_wp2_with fail
          refine (known_any wr).mono ?_
          rintro e w' ⟨rfl, hb⟩
          go_wp2_with fail
          go_ret
          exact ⟨rfl, Below.tr T.out.bel hb⟩
        · have hbI2 : ¬ (100 : Int) < (kn : Int) := by omega
          have hq1 : Hid (y.dtn ≤ 4096) := by show _ ≤ _; rw [← HDN.out]; omega
          have hq2 : Hid (y.kpn ≤ 100) := by show _ ≤ _; rw [← HKN.out]; omega
          go_wp2_with (
            (with_reducible refine lst_load_mid 54 (.tmp 45) rfl b (o + k * 5) rfl y.cells _ HR.out uO.out rfl iy.out ?_ ?_)
            (focus rfl))
          refine (does_any T.out (by have := HD.out; omega) y HOK.out hq1.out hq2.out HOK.out.n).mono ?_
          rintro e w3 ⟨rfl, D3, vs3, R3, h3, hd3⟩
          have T3 := Lib.hid h3
          have HD3 : Hid (D3.done ≤ k + 1) := Lib.hid (by have := HD.out; omega)
          clear h3 hd3 T HR HOK
          go_wp2_with fail
          refine (Looks_any T3.out (by have := HD3.out; omega)).mono ?_
          rintro e w4 ⟨rfl, hb4⟩
          have T4 := Lib.hid (T3.out.old hb4)
          clear hb4 T3
          go_wp2_with fail
          go_roundw
          case rel => exact ⟨k + 1, D3, vs3, R3, by omega, by omega, by go_num, Lib.hid ⟨T4.out, HD3.out⟩⟩
          case measure => simp [intOf]; omega
    · have HDb : Hid (D.done ≤ 80) := Lib.hid (by have := HD.out; omega)
      have exitW : Hid (∀ wx : World, wx = wr → True) := fun _ _ => trivial
      clear exitW
      by_cases h1 : k < n
      · have h2 : ¬ k < 80 := fun h => hlt ⟨h1, h⟩
        have h1I : (k : Int) < (n : Int) := by omega
        have h2I : ¬ (k : Int) < 80 := by omega
        have hk80 : k = 80 := by omega
        subst hk80
        clear hlt h1 h2
        go_wp2_with fail
        refine (Looks_any T.out (by have := HDb.out; omega)).mono ?_
        rintro e w4 ⟨rfl, hb4⟩
        have T4 := Lib.hid (T.out.old hb4)
        clear hb4 T
        go_wp2_with fail
        refine (known_any _).mono ?_
        rintro e w' ⟨rfl, hb⟩
        go_wp2_with fail
        go_ret
        exact ⟨rfl, Below.tr T4.out.bel hb⟩
      · have h1I : ¬ (k : Int) < (n : Int) := by omega
        clear hlt h1
        go_wp2_with fail
        refine (Looks_any T.out (by have := HDb.out; omega)).mono ?_
        rintro e w4 ⟨rfl, hb4⟩
        have T4 := Lib.hid (T.out.old hb4)
        clear hb4 T
        go_wp2_with fail
        refine (known_any _).mono ?_
        rintro e w' ⟨rfl, hb⟩
        go_wp2_with fail
        go_ret
        exact ⟨rfl, Below.tr T4.out.bel hb⟩
end Go.Proofs.Ytjfnpndpigpaiaa
