/- FeedOnce. -/
import Derived.Test.YtohaaejonlijeaaFe4
import Derived.Deep.CutRange
import Derived.Deep.DeepCutAuto
namespace Go.Proofs.Ytohaaejonlijeaa
open Go.RowKit Go.Maps
attribute [local go_sem] yld yldUpon_value

/-- one connection follows -/
def onceF (c p : Int) : Int → Option Fl := upd (fun _ => none) c (some ⟨⟨#[97, 110, 110]⟩, p⟩)
theorem onceF_at (c p : Int) : onceF c p c = some ⟨⟨#[97, 110, 110]⟩, p⟩ := upd_same _ _ _
theorem onceF_upd (c p q : Int) : upd (onceF c p) c (some ⟨⟨#[97, 110, 110]⟩, q⟩) = onceF c q := by
  funext i
  unfold onceF upd
  by_cases h : i = c <;> simp [h]
/-- where a round stands -/
structure OnceI (w wr : World) (f m : Nat) (c p0 len i count next : Int) : Prop where
  at_ : ∃ B, FeedAt wr f m 1 B (onceF c next) ∧ w.heap.size ≤ B c
  bel : Below w.heap.size w wr
  i0 : 0 ≤ i ∧ i ≤ len + 200
  c0 : 0 ≤ count ∧ count ≤ 200 * i ∧ count ≤ 200 * len
  p0 : p0 ≤ next ∧ next ≤ max p0 (count + 1)
  go : count < next ∨ 64 * (i - len) ≤ next
theorem due_cases (p k : Int) (t : ByteArray) : ∃ n, dueF (some ⟨t, p⟩) k = n ∧ ((n = 0 ∧ k < p) ∨ (0 < n ∧ n < 64 ∧ p + n - 1 = k) ∨ (n = 64 ∧ p + 63 ≤ k)) := by
  refine ⟨_, rfl, ?_⟩
  simp only [dueF]
  split <;> omega
set_option maxRecDepth 100000 in
set_option maxHeartbeats 4000000 in
theorem FeedOnce_any (w : World) (conn : Int) (_ : (Lit.int .i64 conn).wf = true) (frm : Int) (_ : (Lit.int .i64 frm).wf = true) {A : Option Addr} {n cap : Nat} {l : List Int} (h : IntSl w (Old w) A n cap l) (hn : n ≤ 140737488355000) :
    Calls Try.prog 3 #[.int .i64 conn, .int .i64 frm, .slice A n cap] w fun e w' => e = .returned (.bool true) ∧ Below w.heap.size w w' := by
  have H := Lib.hid h
  have HL := Lib.hid h.len
  clear h
  by_cases h40 : 40 < n
  · have h40I : (40 : Int) < (n : Int) := by omega
    go_enter Try.func3, Try.ntmps3
    go_wp2_with fail
    refine (works_any w).mono ?_
    rintro e w' ⟨rfl, hb⟩
    go_wp2_with fail
    go_ret
    exact ⟨rfl, hb⟩
  · have h40I : ¬ (40 : Int) < (n : Int) := by omega
    obtain ⟨q1, hq1⟩ : ∃ q1, conn % 8 = q1 := ⟨_, rfl⟩
    obtain ⟨q2, hq2⟩ : ∃ q2, frm % 1000 = q2 := ⟨_, rfl⟩
    have hq1b : 0 ≤ q1 ∧ q1 ≤ 7 := by omega
    have hq2b : 0 ≤ q2 ∧ q2 ≤ 999 := by omega
    obtain ⟨c, hc⟩ : ∃ c, 1 + q1 = c := ⟨_, rfl⟩
    obtain ⟨p0, hp0⟩ : ∃ p0, 1 + q2 = p0 := ⟨_, rfl⟩
    have hcb : 1 ≤ c ∧ c ≤ 8 := by omega
    have hpb : 1 ≤ p0 ∧ p0 ≤ 1000 := by omega
    have Q1 := Lib.hid hq1; have Q2 := Lib.hid hq2
    have HCB := Lib.hid hcb; have HPB := Lib.hid hpb
    have hw1 : IntKind.i64.wrap (1 + q1) = c := by rw [wrap_z (by omega)]; exact hc
    have hw2 : IntKind.i64.wrap (1 + q2) = p0 := by rw [wrap_z (by omega)]; exact hp0
    clear hq1 hq2
    go_enter Try.func3, Try.ntmps3
    go_wp2_with fail
    refine (Pick_any conn 8 w (by omega)).mono ?_
    rintro e w' ⟨rfl, rfl⟩
    rw [if_neg (by decide), Q1.out]
    go_wp2_with fail
    refine (Pick_any frm 1000 w (by omega)).mono ?_
    rintro e w' ⟨rfl, rfl⟩
    rw [if_neg (by decide), Q2.out]
    go_wp2_with fail
    clear hc hp0 hw1 hw2
    refine (FNew_any w).mono ?_
    rintro e w1 ⟨f, m, rfl, h1, hb1, hf1, hm1⟩
    have H1 := Lib.hid h1; have B1 := Lib.hid hb1
    have HM : Hid (w.heap.size ≤ m) := hm1
    clear h1 hb1 hf1 hm1
    go_wp2_with fail
    refine (Follow_good w1 f m 0 _ _ H1.out (by omega) c p0 ⟨#[97, 110, 110]⟩ (by simp [feedBad]; omega)).mono ?_
    rintro e w2 ⟨g, rfl, h2, hg2, hf2⟩
    have I0 : Hid (OnceI w w2 f m c p0 n 0 0 p0) := Lib.hid ⟨⟨_, h2, by rw [upd_same]; exact Nat.le_trans B1.out.size hg2⟩, H1.out.to_bel B1.out HM.out hf2, by omega, by omega, by omega, by omega⟩
    clear h2 hg2 hf2 H1 B1
    go_wp2_with fail
    have hcw : (Lit.int .i64 c).wf = true := WalkArith.wf_i64 (by omega)
    go_loopw [8, 9, 10] (fun cv nv iv wr => ∃ (j : Nat) (count next : Int), cv = .int .i64 count ∧ nv = .int .i64 next ∧ iv = .int .i64 (j : Nat) ∧ Hid (OnceI w wr f m c p0 n (j : Int) count next)) (fun _ _ iv _ => n + 200 - (intOf iv).toNat)
    case atStart => exact ⟨0, 0, p0, rfl, rfl, rfl, I0⟩
    case round =>
      clear I0
      obtain ⟨j, count, next, rfl, rfl, rfl, I⟩ := hrel
      obtain ⟨hi0, hi1⟩ := I.out.i0
      obtain ⟨hc0, hc1, hc2⟩ := I.out.c0
      obtain ⟨hp1, hp2⟩ := I.out.p0
      have hgo := Lib.hid I.out.go
      have BW := Lib.hid I.out.bel
      obtain ⟨B, hF, hB⟩ := I.out.at_
      have HF := Lib.hid hF; have HB := Lib.hid hB
      clear hF hB I
      have hwl : IntKind.i64.wrap ((n : Int) + 200) = n + 200 := wrap_z (by omega)
      by_cases hlt : (j : Int) < n + 200
      · -- what comes
        obtain ⟨count2, hk2, hkb⟩ : ∃ count2 : Int, (if (j : Int) < n then count2 = count + (l.getD j 0) % 201 else count2 = count) ∧ count ≤ count2 := by
          by_cases hin : (j : Int) < n
          · exact ⟨count + l.getD j 0 % 201, by rw [if_pos hin], by omega⟩
          · exact ⟨count, by rw [if_neg hin], by omega⟩
        have K2 := Lib.hid hk2
        have hb2 : 0 ≤ count2 ∧ count2 ≤ 200 * ((j : Int) + 1) ∧ count2 ≤ 200 * n := by
          by_cases hin : (j : Int) < n
          · rw [if_pos hin] at hk2; omega
          · rw [if_neg hin] at hk2; omega
        have hgo2 : Hid (count2 < next ∨ 64 * ((j : Int) - n) ≤ next) := by
          by_cases hin : (j : Int) < n
          · exact .inr (by omega)
          · rw [if_neg hin] at hk2
            subst hk2
            exact hgo.out
        clear hk2
        obtain ⟨d, hd, hdc⟩ := due_cases next count2 ⟨#[97, 110, 110]⟩
        have HD := Lib.hid hd; have HDC := Lib.hid hdc
        clear hd hdc
        have hwk : (Lit.int .i64 count2).wf = true := WalkArith.wf_i64 (by omega)
        by_cases hin : (j : Int) < n
        · have k2 := K2.out
          rw [if_pos hin] at k2
          have hjl : j < l.length := by have := HL.out; omega
          obtain ⟨ad, rfl, hFb, hcell⟩ := (H.out.belF BW.out (fun _ h => h)).at_ j hjl
          rw [List.getD_eq_getElem?_getD, List.getElem?_eq_getElem hjl, Option.getD_some] at k2
          generalize l[j] = v at k2 hcell
          obtain ⟨q, hq⟩ : ∃ q, v % 201 = q := ⟨_, rfl⟩
          rw [hq] at k2
          have hwq : IntKind.i64.wrap (count + q) = count2 := by rw [wrap_z (by omega)]; exact k2.symm
          have HQ := Lib.hid hq
          have lb := block_lt_of hcell
          clear hq k2 K2
          go_wp2_with fail
          refine (Pick_any v 201 wr (by omega)).mono ?_
          rintro e w' ⟨rfl, rfl⟩
          rw [if_neg (by decide), HQ.out]
          go_wp2_with fail
          refine (Due_any wr f m _ _ _ HF.out c count2 hcw hwk _ (onceF_at c next) (fun x hx => by injection hx with hx; subst hx; show 1 ≤ next; omega)).mono ?_
          rintro e w' ⟨rfl, rfl⟩
          rw [HD.out]
          rcases HDC.out with ⟨h0, hlt2⟩ | ⟨h1, h2, h3⟩ | ⟨h4, h5⟩
          · subst h0
            clear HD HDC
            have hle : ¬ next ≤ count2 := by omega
            have hw0 : IntKind.i64.wrap next = next := wrap_z (by omega)
            go_wp2_with fail
            refine (Moved_any wr f m _ _ _ HF.out c 0 hcw (WalkArith.wf_i64 (by omega)) _ (onceF_at c next) (fun x hx => by injection hx with hx; subst hx; exact ⟨by show 1 ≤ next; omega, by show next ≤ _; omega⟩)).mono ?_
            rintro e w3 ⟨rfl, h3, hf3⟩
            have h3' : FeedAt w3 f m 1 B (onceF c next) := by
              have e1 : upd (onceF c next) c (Option.map (fun x : Fl => (⟨x.ten, x.pl + min (max 0 0) 1099511627776⟩ : Fl)) (some ⟨⟨#[97, 110, 110]⟩, next⟩)) = onceF c next := by
                rw [Option.map_some, show next + min (max 0 0) 1099511627776 = next by omega]
                exact onceF_upd _ _ _
              rw [← e1]; exact h3
            have B3 : Hid (Below w.heap.size w w3) := Lib.hid (((Fr.of_below BW.out).trans hf3 (fun _ _ e => e)).to_below (fun k hk e => by have := HB.out; have := e.2; omega))
            have H3 := Lib.hid h3'
            clear h3 h3' hf3
            go_wp2_with fail
            refine (At_any w3 f m _ _ _ H3.out c hcw _ (onceF_at c next)).mono ?_
            rintro e w4 ⟨rfl, x, rfl⟩
            have I4 : Hid (OnceI w (w3.drewN x) f m c p0 n ((j : Int) + 1) count2 next) := Lib.hid ⟨⟨B, H3.out.bel (Below.drN w3 x), HB.out⟩, Below.tr B3.out (Below.drN w3 x), by omega, hb2, by omega, by rcases hgo2.out with h | h <;> omega⟩
            generalize w3.drewN x = w4 at I4 ⊢
            simp only [Option.elim_some, Option.isSome_some]
            go_wp2_with fail
            go_roundw
            case rel => exact ⟨j + 1, count2, next, rfl, rfl, by go_num, by simpa using I4⟩
            case measure => simp [intOf]; omega
          · have hne : (d == 0) = false := by simp; omega
            have hne2 : ¬ d = 0 := by omega
            obtain ⟨s, hs⟩ : ∃ s, s = next + d := ⟨_, rfl⟩
            have hws : IntKind.i64.wrap (next + d) = s := by rw [wrap_z (by omega)]; exact hs.symm
            have hws1 : IntKind.i64.wrap (s - 1) = count2 := by rw [wrap_z (by omega)]; omega
            clear HD HDC
            go_wp2_with fail
            refine (Moved_any wr f m _ _ _ HF.out c d hcw (WalkArith.wf_i64 (by omega)) _ (onceF_at c next) (fun x hx => by injection hx with hx; subst hx; exact ⟨by show 1 ≤ next; omega, by show next ≤ _; omega⟩)).mono ?_
            rintro e w3 ⟨rfl, h3, hf3⟩
            have h3' : FeedAt w3 f m 1 B (onceF c s) := by
              have e1 : upd (onceF c next) c (Option.map (fun x : Fl => (⟨x.ten, x.pl + min (max d 0) 1099511627776⟩ : Fl)) (some ⟨⟨#[97, 110, 110]⟩, next⟩)) = onceF c s := by
                rw [Option.map_some, show next + min (max d 0) 1099511627776 = s by omega]
                exact onceF_upd _ _ _
              rw [← e1]; exact h3
            have B3 : Hid (Below w.heap.size w w3) := Lib.hid (((Fr.of_below BW.out).trans hf3 (fun _ _ e => e)).to_below (fun k hk e => by have := HB.out; have := e.2; omega))
            have H3 := Lib.hid h3'
            clear h3 h3' hf3
            go_wp2_with fail
            refine (At_any w3 f m _ _ _ H3.out c hcw _ (onceF_at c s)).mono ?_
            rintro e w4 ⟨rfl, x, rfl⟩
            have I4 : Hid (OnceI w (w3.drewN x) f m c p0 n ((j : Int) + 1) count2 s) := Lib.hid ⟨⟨B, H3.out.bel (Below.drN w3 x), HB.out⟩, Below.tr B3.out (Below.drN w3 x), by omega, hb2, by omega, by rcases hgo2.out with h | h <;> omega⟩
            generalize w3.drewN x = w4 at I4 ⊢
            simp only [Option.elim_some, Option.isSome_some]
            go_wp2_with fail
            go_roundw
            case rel => exact ⟨j + 1, count2, s, rfl, (by rw [hs]), by go_num, by simpa using I4⟩
            case measure => simp [intOf]; omega
          · subst h4
            obtain ⟨s, hs⟩ : ∃ s, s = next + 64 := ⟨_, rfl⟩
            have hws : IntKind.i64.wrap (next + 64) = s := by rw [wrap_z (by omega)]; exact hs.symm
            obtain ⟨t, ht⟩ : ∃ t, t = s - 1 := ⟨_, rfl⟩
            have hws1 : IntKind.i64.wrap (s - 1) = t := by rw [wrap_z (by omega)]; exact ht.symm
            have hle : ¬ count2 < t := by omega
            clear HD HDC ht
            go_wp2_with fail
            refine (Moved_any wr f m _ _ _ HF.out c 64 hcw (WalkArith.wf_i64 (by omega)) _ (onceF_at c next) (fun x hx => by injection hx with hx; subst hx; exact ⟨by show 1 ≤ next; omega, by show next ≤ _; omega⟩)).mono ?_
            rintro e w3 ⟨rfl, h3, hf3⟩
            have h3' : FeedAt w3 f m 1 B (onceF c s) := by
              have e1 : upd (onceF c next) c (Option.map (fun x : Fl => (⟨x.ten, x.pl + min (max 64 0) 1099511627776⟩ : Fl)) (some ⟨⟨#[97, 110, 110]⟩, next⟩)) = onceF c s := by
                rw [Option.map_some, show next + min (max 64 0) 1099511627776 = s by omega]
                exact onceF_upd _ _ _
              rw [← e1]; exact h3
            have B3 : Hid (Below w.heap.size w w3) := Lib.hid (((Fr.of_below BW.out).trans hf3 (fun _ _ e => e)).to_below (fun k hk e => by have := HB.out; have := e.2; omega))
            have H3 := Lib.hid h3'
            clear h3 h3' hf3
            go_wp2_with fail
            refine (At_any w3 f m _ _ _ H3.out c hcw _ (onceF_at c s)).mono ?_
            rintro e w4 ⟨rfl, x, rfl⟩
            have I4 : Hid (OnceI w (w3.drewN x) f m c p0 n ((j : Int) + 1) count2 s) := Lib.hid ⟨⟨B, H3.out.bel (Below.drN w3 x), HB.out⟩, Below.tr B3.out (Below.drN w3 x), by omega, hb2, by omega, by rcases hgo2.out with h | h <;> omega⟩
            generalize w3.drewN x = w4 at I4 ⊢
            simp only [Option.elim_some, Option.isSome_some]
            go_wp2_with fail
            go_roundw
            case rel => exact ⟨j + 1, count2, s, rfl, (by rw [hs]), by go_num, by simpa using I4⟩
            case measure => simp [intOf]; omega
        · have k2 := K2.out
          rw [if_neg hin] at k2
          subst k2
          clear K2
          go_wp2_with fail
          refine (Due_any wr f m _ _ _ HF.out c count2 hcw hwk _ (onceF_at c next) (fun x hx => by injection hx with hx; subst hx; show 1 ≤ next; omega)).mono ?_
          rintro e w' ⟨rfl, rfl⟩
          rw [HD.out]
          rcases HDC.out with ⟨h0, hlt2⟩ | ⟨h1, h2, h3⟩ | ⟨h4, h5⟩
          · subst h0
            clear HD HDC
            have hle : ¬ next ≤ count2 := by omega
            have hw0 : IntKind.i64.wrap next = next := wrap_z (by omega)
            go_wp2_with fail
            refine (Moved_any wr f m _ _ _ HF.out c 0 hcw (WalkArith.wf_i64 (by omega)) _ (onceF_at c next) (fun x hx => by injection hx with hx; subst hx; exact ⟨by show 1 ≤ next; omega, by show next ≤ _; omega⟩)).mono ?_
            rintro e w3 ⟨rfl, h3, hf3⟩
            have h3' : FeedAt w3 f m 1 B (onceF c next) := by
              have e1 : upd (onceF c next) c (Option.map (fun x : Fl => (⟨x.ten, x.pl + min (max 0 0) 1099511627776⟩ : Fl)) (some ⟨⟨#[97, 110, 110]⟩, next⟩)) = onceF c next := by
                rw [Option.map_some, show next + min (max 0 0) 1099511627776 = next by omega]
                exact onceF_upd _ _ _
              rw [← e1]; exact h3
            have B3 : Hid (Below w.heap.size w w3) := Lib.hid (((Fr.of_below BW.out).trans hf3 (fun _ _ e => e)).to_below (fun k hk e => by have := HB.out; have := e.2; omega))
            have H3 := Lib.hid h3'
            clear h3 h3' hf3
            go_wp2_with fail
            refine (At_any w3 f m _ _ _ H3.out c hcw _ (onceF_at c next)).mono ?_
            rintro e w4 ⟨rfl, x, rfl⟩
            have I4 : Hid (OnceI w (w3.drewN x) f m c p0 n ((j : Int) + 1) count2 next) := Lib.hid ⟨⟨B, H3.out.bel (Below.drN w3 x), HB.out⟩, Below.tr B3.out (Below.drN w3 x), by omega, hb2, by omega, by rcases hgo2.out with h | h <;> omega⟩
            generalize w3.drewN x = w4 at I4 ⊢
            simp only [Option.elim_some, Option.isSome_some]
            go_wp2_with fail
            go_roundw
            case rel => exact ⟨j + 1, count2, next, rfl, rfl, by go_num, by simpa using I4⟩
            case measure => simp [intOf]; omega
          · have hne : (d == 0) = false := by simp; omega
            have hne2 : ¬ d = 0 := by omega
            obtain ⟨s, hs⟩ : ∃ s, s = next + d := ⟨_, rfl⟩
            have hws : IntKind.i64.wrap (next + d) = s := by rw [wrap_z (by omega)]; exact hs.symm
            have hws1 : IntKind.i64.wrap (s - 1) = count2 := by rw [wrap_z (by omega)]; omega
            clear HD HDC
            go_wp2_with fail
            refine (Moved_any wr f m _ _ _ HF.out c d hcw (WalkArith.wf_i64 (by omega)) _ (onceF_at c next) (fun x hx => by injection hx with hx; subst hx; exact ⟨by show 1 ≤ next; omega, by show next ≤ _; omega⟩)).mono ?_
            rintro e w3 ⟨rfl, h3, hf3⟩
            have h3' : FeedAt w3 f m 1 B (onceF c s) := by
              have e1 : upd (onceF c next) c (Option.map (fun x : Fl => (⟨x.ten, x.pl + min (max d 0) 1099511627776⟩ : Fl)) (some ⟨⟨#[97, 110, 110]⟩, next⟩)) = onceF c s := by
                rw [Option.map_some, show next + min (max d 0) 1099511627776 = s by omega]
                exact onceF_upd _ _ _
              rw [← e1]; exact h3
            have B3 : Hid (Below w.heap.size w w3) := Lib.hid (((Fr.of_below BW.out).trans hf3 (fun _ _ e => e)).to_below (fun k hk e => by have := HB.out; have := e.2; omega))
            have H3 := Lib.hid h3'
            clear h3 h3' hf3
            go_wp2_with fail
            refine (At_any w3 f m _ _ _ H3.out c hcw _ (onceF_at c s)).mono ?_
            rintro e w4 ⟨rfl, x, rfl⟩
            have I4 : Hid (OnceI w (w3.drewN x) f m c p0 n ((j : Int) + 1) count2 s) := Lib.hid ⟨⟨B, H3.out.bel (Below.drN w3 x), HB.out⟩, Below.tr B3.out (Below.drN w3 x), by omega, hb2, by omega, by rcases hgo2.out with h | h <;> omega⟩
            generalize w3.drewN x = w4 at I4 ⊢
            simp only [Option.elim_some, Option.isSome_some]
            go_wp2_with fail
            go_roundw
            case rel => exact ⟨j + 1, count2, s, rfl, (by rw [hs]), by go_num, by simpa using I4⟩
            case measure => simp [intOf]; omega
          · subst h4
            obtain ⟨s, hs⟩ : ∃ s, s = next + 64 := ⟨_, rfl⟩
            have hws : IntKind.i64.wrap (next + 64) = s := by rw [wrap_z (by omega)]; exact hs.symm
            obtain ⟨t, ht⟩ : ∃ t, t = s - 1 := ⟨_, rfl⟩
            have hws1 : IntKind.i64.wrap (s - 1) = t := by rw [wrap_z (by omega)]; exact ht.symm
            have hle : ¬ count2 < t := by omega
            clear HD HDC ht
            go_wp2_with fail
            refine (Moved_any wr f m _ _ _ HF.out c 64 hcw (WalkArith.wf_i64 (by omega)) _ (onceF_at c next) (fun x hx => by injection hx with hx; subst hx; exact ⟨by show 1 ≤ next; omega, by show next ≤ _; omega⟩)).mono ?_
            rintro e w3 ⟨rfl, h3, hf3⟩
            have h3' : FeedAt w3 f m 1 B (onceF c s) := by
              have e1 : upd (onceF c next) c (Option.map (fun x : Fl => (⟨x.ten, x.pl + min (max 64 0) 1099511627776⟩ : Fl)) (some ⟨⟨#[97, 110, 110]⟩, next⟩)) = onceF c s := by
                rw [Option.map_some, show next + min (max 64 0) 1099511627776 = s by omega]
                exact onceF_upd _ _ _
              rw [← e1]; exact h3
            have B3 : Hid (Below w.heap.size w w3) := Lib.hid (((Fr.of_below BW.out).trans hf3 (fun _ _ e => e)).to_below (fun k hk e => by have := HB.out; have := e.2; omega))
            have H3 := Lib.hid h3'
            clear h3 h3' hf3
            go_wp2_with fail
            refine (At_any w3 f m _ _ _ H3.out c hcw _ (onceF_at c s)).mono ?_
            rintro e w4 ⟨rfl, x, rfl⟩
            have I4 : Hid (OnceI w (w3.drewN x) f m c p0 n ((j : Int) + 1) count2 s) := Lib.hid ⟨⟨B, H3.out.bel (Below.drN w3 x), HB.out⟩, Below.tr B3.out (Below.drN w3 x), by omega, hb2, by omega, by rcases hgo2.out with h | h <;> omega⟩
            generalize w3.drewN x = w4 at I4 ⊢
            simp only [Option.elim_some, Option.isSome_some]
            go_wp2_with fail
            go_roundw
            case rel => exact ⟨j + 1, count2, s, rfl, (by rw [hs]), by go_num, by simpa using I4⟩
            case measure => simp [intOf]; omega
      · have hie : (j : Int) = n + 200 := by omega
        have hnext : count < next := by rcases hgo.out with h | h <;> omega
        have hwc : (Lit.int .i64 count).wf = true := WalkArith.wf_i64 (by omega)
        have hd : dueF (some ⟨⟨#[97, 110, 110]⟩, next⟩) count = 0 := by simp only [dueF]; rw [if_pos hnext]
        have HD := Lib.hid hd
        have hmx : next = max p0 (count + 1) := by omega
        have hwx : IntKind.i64.wrap (count + 1) = count + 1 := wrap_z (by omega)
        clear hd
        go_wp2_with fail
        refine (Due_any wr f m _ _ _ HF.out c count hcw hwc _ (onceF_at c next) (fun x hx => by injection hx with hx; subst hx; show 1 ≤ next; omega)).mono ?_
        rintro e w' ⟨rfl, rfl⟩
        rw [HD.out]
        go_wp2_with fail
        refine (works_any wr).mono ?_
        rintro e w' ⟨rfl, hb⟩
        go_wp2_with fail
        go_ret
        exact ⟨rfl, Below.tr BW.out hb⟩
end Go.Proofs.Ytohaaejonlijeaa
