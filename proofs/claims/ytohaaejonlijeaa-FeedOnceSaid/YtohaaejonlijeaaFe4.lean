/- The chapter's follower. -/
import Derived.Test.YtohaaejonlijeaaFe2
import Derived.Test.YtohaaejonlijeaaFe3
import Derived.Test.YtohaaejonlijeaaKitI
namespace Go.Proofs.Ytohaaejonlijeaa
open Go.RowKit Go.Maps
attribute [local go_sem] yld yldUpon_value

def ann : ByteArray := ⟨#[97, 110, 110]⟩
theorem FeedAt.to_bel {w w1 w2 : World} {f m N : Nat} {B : Int → Nat} {fl : Int → Option Fl} (_ : FeedAt w1 f m N B fl) (hb : Below w.heap.size w w1) (hm : w.heap.size ≤ m) (hf : Fr (fun j => j = m) w1 w2) : Below w.heap.size w w2 :=
  ((Fr.of_below hb).trans hf (fun _ _ e => e)).to_below (fun i hi (e : i = m) => by omega)
set_option maxRecDepth 100000 in
set_option maxHeartbeats 4000000 in
theorem works_any (w : World) : Calls Try.prog 7 #[] w fun e w' => e = .returned (.bool true) ∧ Below w.heap.size w w' := by
  obtain ⟨fl1, hfl1⟩ : ∃ fl1, fl1 = upd (fun _ => none) 2 (some (⟨⟨#[97, 110, 110]⟩, 1⟩ : Fl)) := ⟨_, rfl⟩
  obtain ⟨fl2, hfl2⟩ : ∃ fl2, fl2 = upd fl1 2 (some (⟨⟨#[97, 110, 110]⟩, 4⟩ : Fl)) := ⟨_, rfl⟩
  have a1 : Hid (fl1 2 = some ⟨⟨#[97, 110, 110]⟩, 1⟩) := by rw [hfl1]; exact Lib.hid (upd_same _ _ _)
  have a2 : Hid (fl2 2 = some ⟨⟨#[97, 110, 110]⟩, 4⟩) := by rw [hfl2]; exact Lib.hid (upd_same _ _ _)
  have aw : Hid (whoL fl2 = [2]) := by rw [hfl2, hfl1]; exact Lib.hid rfl
  have F1 := Lib.hid hfl1; have F2 := Lib.hid hfl2
  clear hfl1 hfl2
  go_enter Try.func7, Try.ntmps7
  go_wp2_with fail
  refine (FNew_any w).mono ?_
  rintro e w1 ⟨f, m, rfl, h1, hb1, hf1, hm1⟩
  have HM : Hid (w.heap.size ≤ m) := hm1
  have HF : Hid (w.heap.size ≤ f) := hf1
  have B1 := Lib.hid hb1
  have H1 := Lib.hid h1
  clear h1 hb1 hf1 hm1
  go_wp2_with fail
  refine (Follow_good w1 f m 0 _ _ H1.out (by omega) 2 1 ⟨#[97, 110, 110]⟩ (by decide)).mono ?_
  rintro e w2 ⟨g, rfl, h2, hg2, hf2⟩
  rw [← F1.out] at h2
  have B2 := Lib.hid (H1.out.to_bel B1.out HM.out hf2)
  have H2 := Lib.hid h2
  have HG : Hid (w.heap.size ≤ g) := Nat.le_trans B1.out.size hg2
  clear h2 hf2 H1 B1 hg2
  go_wp2_with fail
  refine (Follow_bad w2 f 9 1 ⟨#[97, 110, 110]⟩ (by decide)).mono ?_
  rintro e w' ⟨rfl, rfl⟩
  go_wp2_with fail
  refine (Due_any w2 f m _ _ _ H2.out 2 3 (by decide) (by decide) _ a1.out (fun x hx => by injection hx with hx; subst hx; decide)).mono ?_
  rintro e w' ⟨rfl, rfl⟩
  rw [show dueF (some ⟨⟨#[97, 110, 110]⟩, 1⟩) 3 = 3 from by decide]
  go_wp2_with fail
  refine (Due_any w2 f m _ _ _ H2.out 2 100 (by decide) (by decide) _ a1.out (fun x hx => by injection hx with hx; subst hx; decide)).mono ?_
  rintro e w' ⟨rfl, rfl⟩
  rw [show dueF (some ⟨⟨#[97, 110, 110]⟩, 1⟩) 100 = 64 from by decide]
  go_wp2_with fail
  refine (Moved_any w2 f m _ _ _ H2.out 2 3 (by decide) (by decide) _ a1.out (fun x hx => by injection hx with hx; subst hx; decide)).mono ?_
  rintro e w3 ⟨rfl, h3, hf3⟩
  have h3' : FeedAt w3 f m (0 + 1) (upd (fun _ => 0) 2 g) fl2 := by rw [F2.out]; exact h3
  have H3 := Lib.hid h3'
  have B3 : Hid (Below w.heap.size w w3) := Lib.hid (((Fr.of_below B2.out).trans hf3 (fun _ _ e => e)).to_below (fun i hi e => by
    have h1 := e.2
    rw [upd_same] at h1
    have := HG.out; omega))
  clear h3 h3' hf3 H2 B2
  go_wp2_with fail
  refine (At_any w3 f m _ _ _ H3.out 2 (by decide) _ a2.out).mono ?_
  rintro e w4 ⟨rfl, x, rfl⟩
  have B4 := Lib.hid (Below.tr B3.out (Below.drN w3 x))
  have H4 := Lib.hid (H3.out.bel (Below.drN w3 x))
  generalize w3.drewN x = w4 at B4 H4 ⊢
  clear H3 B3
  simp only [Option.elim_some, Option.isSome_some]
  go_wp2_with fail
  refine (Due_any w4 f m _ _ _ H4.out 2 3 (by decide) (by decide) _ a2.out (fun x hx => by injection hx with hx; subst hx; decide)).mono ?_
  rintro e w' ⟨rfl, rfl⟩
  rw [show dueF (some ⟨⟨#[97, 110, 110]⟩, 4⟩) 3 = 0 from by decide]
  go_wp2_with fail
  refine (Due_any w4 f m _ _ _ H4.out 2 4 (by decide) (by decide) _ a2.out (fun x hx => by injection hx with hx; subst hx; decide)).mono ?_
  rintro e w' ⟨rfl, rfl⟩
  rw [show dueF (some ⟨⟨#[97, 110, 110]⟩, 4⟩) 4 = 1 from by decide]
  go_wp2_with fail
  refine (Who_any w4 f m _ _ _ H4.out).mono ?_
  rintro e w5 ⟨A, n, c, rfl, ho, hb5⟩
  rw [aw.out] at ho
  have S5 := Lib.hid (IntSl.of_own (l := [2]) ho (by decide))
  have hn5 : n = 1 := by have := S5.out.len; simpa using this.symm
  subst hn5
  have B5 := Lib.hid (Below.tr B4.out hb5)
  clear ho hb5 H4 B4
  have S6 : Hid (IntSl (w5.alloc (.cells #[.int .i64 2] 3)) (fun k => k = w5.heap.size) (some ⟨w5.heap.size, 0, none⟩) 1 1 [2]) := Lib.hid (int_block2 w5 (l := [2]) (by decide))
  have S7 : Hid (IntSl (w5.alloc (.cells #[.int .i64 2] 3)) (fun k => w4.heap.size ≤ k ∧ k < w5.heap.size ∧ (Value.slice A 1 c).ownBlock = some k) A 1 c [2]) := Lib.hid (S5.out.belF (Below.al w5 _) (fun k hk => hk.2.1))
  go_wp2_with fail
  refine (SameInts_at S7.out S6.out (by omega) (by omega) true (by simp)).mono ?_
  rintro e w' ⟨rfl, x, rfl⟩
  go_wp2_with fail
  go_ret
  exact ⟨rfl, below_drewN (Below.tr B5.out (Below.al w5 _)) _⟩
end Go.Proofs.Ytohaaejonlijeaa
