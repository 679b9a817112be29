/- Both disks; Looks. -/
import Derived.Test.YtjfnpndpigpaiaaDr8
import Derived.Test.YtjfnpndpigpaiaaKit3
namespace Go.Proofs.Ytjfnpndpigpaiaa
open Go.RowKit
attribute [local go_sem] yld yldUpon_value

/-- a disk and the reference's, their blocks new since w0 and apart -/
structure Two (w0 w : World) (g : Nat) (D : DD) (vs : Vs) (gr : Nat) (E : DD) (R : Nat → Prop) : Prop where
  disk : DiskAt w g D vs
  ref : Ref w gr E R
  ok : DOK D
  okr : DOK E
  foot : ∀ k, dfoot g vs k → w0.heap.size ≤ k ∧ k < w.heap.size
  footr : ∀ k, (k = gr ∨ R k) → w0.heap.size ≤ k ∧ k < w.heap.size
  dis : ∀ k, dfoot g vs k → ¬ (k = gr ∨ R k)
  bel : Below w0.heap.size w0 w
theorem Two.old {w0 w w' : World} {g : Nat} {D : DD} {vs : Vs} {gr : Nat} {E : DD} {R : Nat → Prop} (h : Two w0 w g D vs gr E R) (hb : Below w.heap.size w w') : Two w0 w' g D vs gr E R :=
  ⟨h.disk.bel hb, h.ref.bel hb, h.ok, h.okr, fun k hk => ⟨(h.foot k hk).1, Nat.lt_of_lt_of_le (h.foot k hk).2 hb.size⟩, fun k hk => ⟨(h.footr k hk).1, Nat.lt_of_lt_of_le (h.footr k hk).2 hb.size⟩, h.dis, Below.tr h.bel hb⟩
/-- other blocks are written that are new since w0 -/
theorem Two.wr {w0 w w' : World} {g : Nat} {D : DD} {vs : Vs} {gr : Nat} {E : DD} {R M : Nat → Prop} (h : Two w0 w g D vs gr E R) (hf : Fr M w w') (hM : ∀ k, M k → w0.heap.size ≤ k ∧ ¬ dfoot g vs k ∧ ¬ (k = gr ∨ R k)) : Two w0 w' g D vs gr E R :=
  ⟨h.disk.fr hf (fun k hk hm => (hM k hm).2.1 hk), h.ref.fr hf ⟨fun hm => (hM _ hm).2.2 (.inl rfl), fun k hk hm => (hM _ hm).2.2 (.inr hk)⟩, h.ok, h.okr, fun k hk => ⟨(h.foot k hk).1, Nat.lt_of_lt_of_le (h.foot k hk).2 hf.size⟩, fun k hk => ⟨(h.footr k hk).1, Nat.lt_of_lt_of_le (h.footr k hk).2 hf.size⟩, h.dis,
    ((Fr.of_below h.bel).trans hf (fun _ _ e => e)).to_below (fun i hi e => by have := (hM i e).1; omega)⟩
theorem DiskAt.foot_all {w : World} {g : Nat} {D : DD} {vs : Vs} (h : DiskAt w g D vs) : ∀ k, dfoot g vs k → k < w.heap.size := fun _ hk => h.foot_lt hk
theorem Ref.foot_all {w : World} {g : Nat} {D : DD} {R : Nat → Prop} (h : Ref w g D R) : ∀ k, (k = g ∨ R k) → k < w.heap.size := by
  obtain ⟨L, vs, h⟩ := h
  rintro k (rfl | hk)
  · exact h.gt
  · exact (h.rlt k hk).1
theorem Two.stepD {w0 w w' : World} {g : Nat} {D D' : DD} {vs : Vs} {gr : Nat} {E : DD} {R : Nat → Prop} (h : Two w0 w g D vs gr E R) (hs : Dstep g vs w w' D') (ok : DOK D') :
    ∃ vs', Two w0 w' g D' vs' gr E R ∧ Fr (dfoot g vs) w w' ∧ ∀ k, dfoot g vs' k → dfoot g vs k ∨ w.heap.size ≤ k := by
  obtain ⟨vs', h1, h2, h3⟩ := hs
  refine ⟨vs', ⟨h1, h.ref.fr h2 ⟨fun e => h.dis _ e (.inl rfl), fun k hk e => h.dis _ e (.inr hk)⟩, ok, h.okr, fun k hk => ⟨?_, h1.foot_all k hk⟩, fun k hk => ⟨(h.footr k hk).1, Nat.lt_of_lt_of_le (h.footr k hk).2 h2.size⟩, fun k hk e => ?_, ?_⟩, h2, h3⟩
  · rcases h3 k hk with hk | hk
    · exact (h.foot k hk).1
    · exact Nat.le_trans h.bel.size hk
  · rcases h3 k hk with hk | hk
    · exact h.dis k hk e
    · have := (h.footr k e).2; omega
  · exact ((Fr.of_below h.bel).trans h2 (fun _ _ e => e)).to_below (fun i hi e => by have := (h.foot i e).1; omega)
theorem Two.stepR {w0 w w' : World} {g : Nat} {D E' : DD} {vs : Vs} {gr : Nat} {E : DD} {R : Nat → Prop} (h : Two w0 w g D vs gr E R) (hs : Rstep gr R w w' E') (ok : DOK E') :
    ∃ R', Two w0 w' g D vs gr E' R' ∧ Fr (fun k => k = gr) w w' ∧ ∀ k, R' k → R k ∨ w.heap.size ≤ k := by
  obtain ⟨R', h1, h2, h3, h4⟩ := hs
  refine ⟨R', ⟨h.disk.fr h2 (fun k hk e => h.dis k hk (.inl e)), h1, h.ok, ok, fun k hk => ⟨(h.foot k hk).1, Nat.lt_of_lt_of_le (h.foot k hk).2 h2.size⟩, fun k hk => ⟨?_, h1.foot_all k hk⟩, fun k hk e => ?_, ?_⟩, h2, h4⟩
  · rcases hk with rfl | hk
    · exact (h.footr k (.inl rfl)).1
    · rcases h4 k hk with hk | hk
      · exact (h.footr k (.inr hk)).1
      · exact Nat.le_trans h.bel.size hk
  · rcases e with e | e
    · exact h.dis k hk (.inl e)
    · rcases h4 k e with e | e
      · exact h.dis k hk (.inr e)
      · have := (h.foot k hk).2; omega
  · exact ((Fr.of_below h.bel).trans h2 (fun _ _ e => e)).to_below (fun i hi e => by have := (h.footr i (.inl e)).1; omega)
set_option maxHeartbeats 1000000 in
theorem Looks_any {w0 w : World} {g : Nat} {D : DD} {vs : Vs} {gr : Nat} {R : Nat → Prop} (h : Two w0 w g D vs gr D R) (hdn : D.done ≤ 1000000000) :
    Calls Try.prog 27 #[.pointer (some ⟨g, 0, none⟩), .pointer (some ⟨gr, 0, none⟩)] w fun e w' => e = .returned (.bool true) ∧ Below w.heap.size w w' := by
  have H := Lib.hid h
  clear h hdn
  go_enter Try.func27, Try.ntmps27
  go_wp2_with fail
  go_loopw [5] (fun iv wr => ∃ k : Nat, k ≤ 35 ∧ iv = .int .i64 ((k : Int) - 1) ∧ Hid (Below w.heap.size w wr)) (fun iv _ => 35 - (intOf iv + 1).toNat)
  case atStart => exact ⟨0, Nat.zero_le _, rfl, Below.refl _ _⟩
  case round =>
    obtain ⟨k, hk, rfl, B⟩ := hrel
    obtain ⟨f, hf⟩ : ∃ f : Int, (k : Int) - 1 = f := ⟨_, rfl⟩
    rw [hf]
    have hfb : -1 ≤ f ∧ f ≤ 34 := by omega
    have HF := Lib.hid hf
    have H1 := Lib.hid (H.out.old B.out)
    by_cases hlt : k < 35
    · have hlI : f ≤ 33 := by omega
      have hf0 : -1 ≤ f := by omega
      clear hf hfb
      go_wp2_with fail
      refine (Read_any H1.out.disk H1.out.ok f).mono ?_
      rintro e w1 ⟨A1, n1, c1, rfl, ho1, hb1⟩
      have O1 := Lib.hid ho1
      have B1 := Lib.hid hb1
      have S1 := Lib.hid (Sl.of_own ho1)
      have H2 := Lib.hid (H1.out.old hb1)
      have N1 : Hid (n1 ≤ 262144) := by
        have h := ho1.1
        rw [bs_length] at h
        have h2 : (readD D f).length ≤ 262144 := by
          unfold readD; split
          · exact H1.out.ok.file_le _
          · exact Nat.zero_le _
        show _ ≤ _; omega
      clear ho1 hb1
      go_wp2_with fail
      refine (RRead_any H2.out.ref H2.out.okr f).mono ?_
      rintro e w2 ⟨A2, n2, c2, rfl, ho2, hb2⟩
      have B2 := Lib.hid hb2
      have S2 := Lib.hid (Sl.of_own ho2)
      have T1 := Lib.hid (S1.out.belF hb2 (fun k hk => hk.2.1))
      have P1 := Lib.hid (own_fr O1.out (Fr.of_below (M := NoB) hb2) (fun _ _ e => e))
      have N2 : Hid (n2 ≤ 262144) := by
        have h := ho2.1
        rw [bs_length] at h
        have h2 : (readD D f).length ≤ 262144 := by
          unfold readD; split
          · exact H1.out.ok.file_le _
          · exact Nat.zero_le _
        show _ ≤ _; omega
      clear ho2 hb2 S1 O1
      go_wp2_with fail
      refine (Same_at T1.out S2.out (by have := N1.out; omega) (by have := N2.out; omega) true (by simp)).mono ?_
      rintro e w' ⟨rfl, x1, rfl⟩
      have P2 : Hid ((w2.drewN x1).ownsRow wr.heap.size 5 1 (.slice A1 n1 c1) n1 (bs (readD D f))) := P1.out
      have B3 : Hid (Below wr.heap.size wr (w2.drewN x1)) := Lib.hid (Below.tr (Below.tr B1.out B2.out) (Below.drN w2 x1))
      generalize w2.drewN x1 = w3 at P2 B3 ⊢
      clear T1 S2 P1 B1 B2 H2
      go_wp2_with fail
      refine (SpoilBytes_any wr.heap.size A1 n1 c1 n1 _ w3 P2.out (Nat.le_refl _) (by have := N1.out; omega)).mono ?_
      rintro e w4 ⟨rfl, hg4⟩
      have B4 : Hid (Below w.heap.size w w4) := Below.tr B.out (B3.out.grown hg4 B3.out.size (fun j hj => (P2.out.lt j hj).1))
      clear hg4 P2 B3
      go_wp2_with fail
      go_roundw
      case rel => exact ⟨k + 1, by omega, by have := HF.out; go_num, B4⟩
      case measure => simp [intOf]; have := HF.out; omega
    · have hlI : ¬ f ≤ 33 := by omega
      have hu := Nat.le_trans H1.out.ok.used H1.out.ok.room
      have HU := Lib.hid (Nat.le_trans hu (by decide : 262144 ≤ 1000000000))
      clear hf hfb hu hk hlt
      go_wp2_with fail
      refine (Used_any H1.out.disk HU.out).mono ?_
      rintro e w1 ⟨rfl, rfl⟩
      go_wp2_with fail
      refine (RUsed_any H1.out.ref H1.out.okr).mono ?_
      rintro e w1 ⟨rfl, x1, rfl⟩
      have H3 := Lib.hid (H1.out.old (Below.drN wr x1))
      have B3 : Hid (Below w.heap.size w (wr.drewN x1)) := Below.tr B.out (Below.drN wr x1)
      generalize wr.drewN x1 = w2 at H3 B3 ⊢
      generalize usedL D.fs = u
      have hu : ((u : Int) == (u : Int)) = true := by simp
      clear HU B H1
      go_wp2_with fail
      refine (Room_any H3.out.disk).mono ?_
      rintro e w1 ⟨rfl, rfl⟩
      go_wp2_with fail
      refine (RRoom_any H3.out.ref).mono ?_
      rintro e w1 ⟨rfl, rfl⟩
      generalize D.room = u2
      have hu2 : ((u2 : Int) == (u2 : Int)) = true := by simp
      go_wp2_with fail
      refine (Count_any H3.out.disk).mono ?_
      rintro e w1 ⟨rfl, rfl⟩
      go_wp2_with fail
      refine (RCount_any H3.out.ref).mono ?_
      rintro e w1 ⟨rfl, rfl⟩
      generalize D.done = u3
      have hu3 : ((u3 : Int) == (u3 : Int)) = true := by simp
      go_wp2_with fail
      refine (Down_any H3.out.disk).mono ?_
      rintro e w1 ⟨rfl, rfl⟩
      go_wp2_with fail
      refine (RDown_any H3.out.ref).mono ?_
      rintro e w1 ⟨rfl, rfl⟩
      generalize D.off = u4
      have hu4 : (u4 == u4) = true := by simp
      go_wp2_with fail
      go_ret
      exact ⟨rfl, B3.out⟩
end Go.Proofs.Ytjfnpndpigpaiaa
