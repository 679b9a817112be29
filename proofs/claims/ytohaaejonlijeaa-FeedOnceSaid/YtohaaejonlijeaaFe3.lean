/- The feed's short functions. -/
import Derived.Test.YtohaaejonlijeaaFe1
import Derived.Test.YtohaaejonlijeaaOrd
namespace Go.Proofs.Ytohaaejonlijeaa
open Go.RowKit Go.Maps
attribute [local go_sem] yld yldUpon_value

theorem turned_fr {w w' : World} {b : Nat} (h : w.mapTurned w' b) : Fr (fun j => j = b) w w' := by
  obtain ⟨es, clock, es', clock', hb, rfl⟩ := h
  exact ⟨rfl, rfl, rfl, by simp [ChangeMaps.setBlock], fun k _ hk => ChangeMaps.heap_setBlock_other hb _ hk⟩
theorem grown_fr {w w' : World} {b : Nat} (h : w.grownBy w' (some b)) : Fr (fun j => j = b) w w' := (Fr.of_grown h).mono (fun k _ e => by injection e)
def feedBad (c n : Int) : Bool := decide (c < 1) || decide (8 < c) || decide (n < 1) || decide (1099511627776 < n)
theorem FNew_any (w : World) : Calls Try.prog 9 #[] w fun e w' => ∃ f m, e = .returned (.pointer (some ⟨f, 0, none⟩)) ∧ FeedAt w' f m 0 (fun _ => 0) (fun _ => none) ∧ Below w.heap.size w w' ∧ w.heap.size ≤ f ∧ w.heap.size ≤ m := by
  have hm := @run_makeMap Try.prog
  go_enter Try.func9, Try.ntmps9
  go_wp2
  go_ret
  refine ⟨w.heap.size + 1, w.heap.size, rfl, ⟨by omega, heap_alloc2_new w _ _, ⟨.map [], ?_, fun c => ⟨rfl, fun x hx => (by cases hx)⟩⟩, fun c x hx => (by cases hx), fun c c' h => (by cases h), fun c x hx => (by cases hx)⟩, ?_, by omega, by omega⟩
  · exact (World.ownsMap_made w _ _ _).alloc _
  · exact ((Below.refl _ _).alloc (Nat.le_refl _) _).alloc (by simp) _
section
variable (w : World) (f m N : Nat) (B : Int → Nat) (fl : Int → Option Fl) (h : FeedAt w f m N B fl)
include h
omit h in
theorem Follow_bad (c n : Int) (t : ByteArray) (hb : feedBad c n = true) :
    Calls Try.prog 10 #[.pointer (some ⟨f, 0, none⟩), .int .i64 c, .string t, .int .i64 n] w fun e w' => e = .returned (.int .i64 1) ∧ w = w' := by
  by_cases h1 : c < 1
  · go_enter Try.func10, Try.ntmps10
    go_wp2
    go_ret
    exact ⟨rfl, rfl⟩
  · by_cases h2 : 8 < c
    · go_enter Try.func10, Try.ntmps10
      go_wp2
      go_ret
      exact ⟨rfl, rfl⟩
    · by_cases h3 : n < 1
      · go_enter Try.func10, Try.ntmps10
        go_wp2
        go_ret
        exact ⟨rfl, rfl⟩
      · have h4 : 1099511627776 < n := by simpa [feedBad, h1, h2, h3] using hb
        go_enter Try.func10, Try.ntmps10
        go_wp2
        go_ret
        exact ⟨rfl, rfl⟩
theorem Follow_good (hN : N ≤ 100000) (c n : Int) (t : ByteArray) (hb : feedBad c n = false) :
    Calls Try.prog 10 #[.pointer (some ⟨f, 0, none⟩), .int .i64 c, .string t, .int .i64 n] w fun e w' => ∃ g, e = .returned (.int .i64 0) ∧ FeedAt w' f m (N + 1) (upd B c g) (upd fl c (some ⟨t, n⟩)) ∧ w.heap.size ≤ g ∧ Fr (fun j => j = m) w w' := by
  simp [feedBad] at hb
  obtain ⟨⟨⟨h1, h2⟩, h3⟩, h4⟩ := hb
  have h1' : ¬ c < 1 := by omega
  have h2' : ¬ 8 < c := by omega
  have h3' : ¬ n < 1 := by omega
  have h4' : ¬ 1099511627776 < n := by omega
  have hn : N < maxLen := by unfold maxLen; omega
  obtain ⟨D, ho, hD⟩ := h.own
  have HO := Lib.hid ho; have HD := Lib.hid hD
  have hk := key_z (c := c) (WalkArith.wf_i64 (by omega))
  have c0 := h.cell
  have lf := block_lt_of c0
  have H := Lib.hid h
  clear ho hD h
  go_enter Try.func10, Try.ntmps10
  go_wp2_with (first
    | (at_mapUpdate; refine wpList_mapUpdate_own _ rfl _ _ _ 45 rfl 3 48 Try.zLaw Try.underlying45 _ m N D rfl (HO.out.alloc _) hn _ _ (kZ c) rfl rfl hk _ [] (pR_mk _) ?_; intro w2 hout2 hg2)
    | fail)
  go_ret
  have hf2 := grown_fr hg2
  refine ⟨rfl, w.heap.size, H.out.put (by omega) HD.out (isMap_own HO.out) (Below.al w _) (Nat.le_refl _) (heap_alloc_new w _) hout2 hf2, Nat.le_refl _, (Fr.of_below (Below.al w _)).trans hf2 (fun _ _ e => e)⟩
theorem Drop_any (c : Int) (hc : (Lit.int .i64 c).wf = true) :
    Calls Try.prog 17 #[.pointer (some ⟨f, 0, none⟩), .int .i64 c] w fun e w' => e = .returned (.tuple #[]) ∧ FeedAt w' f m N B (upd fl c none) ∧ Fr (fun j => j = m) w w' := by
  obtain ⟨D, ho, hD⟩ := h.own
  have HO := Lib.hid ho; have HD := Lib.hid hD
  have hk := key_z hc
  have c0 := h.cell
  have lf := block_lt_of c0
  have H := Lib.hid h
  clear ho hD h
  go_enter Try.func17, Try.ntmps17
  go_wp2_with (first
    | (at_delete; refine wpList_delete_own _ rfl _ _ 45 3 rfl 48 Try.zLaw Try.underlying45 _ m N D rfl HO.out _ (kZ c) rfl hk ?_; intro w1 hown1 hturn1)
    | fail)
  go_end0
  exact ⟨rfl, H.out.drop HD.out hown1 (turned_fr hturn1), turned_fr hturn1⟩
/-- what a feed tells of a connection -/
theorem At_any (c : Int) (hc : (Lit.int .i64 c).wf = true) (r : Option Fl) (hr : fl c = r) :
    Calls Try.prog 13 #[.pointer (some ⟨f, 0, none⟩), .int .i64 c] w fun e w' => e = .returned (.tuple #[.string (r.elim ⟨#[]⟩ Fl.ten), .int .i64 (r.elim 0 Fl.pl), .bool r.isSome]) ∧ ∃ x, w' = w.drewN x := by
  have c0 := h.cell
  have lf := block_lt_of c0
  cases r with
  | none =>
    have hl := run_look_none h hc hr
    clear h
    go_enter Try.func13, Try.ntmps13
    go_wp2
    refine bodyPost_ret (v := .tuple #[.string ⟨#[]⟩, .int .i64 0, .bool false]) (by simp [results, Try.results13, go_sem]) rfl ⟨rfl, 0, rfl⟩
  | some x =>
    have hl := run_look_some h hc hr
    obtain ⟨t, n⟩ := x
    have hb := (h.blk c _ hr).1
    have c1 : w.cell? ⟨B c, 0, none⟩ = some (.string t) := by rw [cell_of_row _ _ _ _ _ _ hb]; rfl
    have c2 : w.cell? ⟨B c, 1, none⟩ = some (.int .i64 n) := by rw [cell_of_row _ _ _ _ _ _ hb]; rfl
    have l1 := block_lt_of c1
    clear h hb
    obtain ⟨g, hg⟩ : ∃ g, g = B c := ⟨_, rfl⟩
    rw [← hg] at c1 c2 l1 hl
    clear hg hr
    go_enter Try.func13, Try.ntmps13
    go_wp2
    go_quiet (fail)
    go_wp2
    refine bodyPost_ret (v := .tuple #[.string t, .int .i64 n, .bool true]) (by simp [results, Try.results13, go_sem]) rfl ⟨rfl, _, rfl⟩
end
/-- how many are due -/
def dueF (r : Option Fl) (k : Int) : Int := match r with | none => 0 | some x => if k < x.pl then 0 else min (k - x.pl + 1) 64
section
variable (w : World) (f m N : Nat) (B : Int → Nat) (fl : Int → Option Fl) (h : FeedAt w f m N B fl)
include h
theorem Due_any (c k : Int) (hc : (Lit.int .i64 c).wf = true) (hk : (Lit.int .i64 k).wf = true) (r : Option Fl) (hr : fl c = r) (hp : ∀ x, r = some x → 1 ≤ x.pl) :
    Calls Try.prog 11 #[.pointer (some ⟨f, 0, none⟩), .int .i64 c, .int .i64 k] w fun e w' => e = .returned (.int .i64 (dueF r k)) ∧ w = w' := by
  have c0 := h.cell
  have lf := block_lt_of c0
  have hkb := bounds_z hk
  cases r with
  | none =>
    have hl := run_look_none h hc hr
    clear h
    go_enter Try.func11, Try.ntmps11
    go_wp2
    go_ret
    exact ⟨rfl, rfl⟩
  | some x =>
    have hl := run_look_some h hc hr
    obtain ⟨t, n⟩ := x
    have hn : 1 ≤ n := hp _ rfl
    have hb := (h.blk c _ hr).1
    have c1 : w.cell? ⟨B c, 0, none⟩ = some (.string t) := by rw [cell_of_row _ _ _ _ _ _ hb]; rfl
    have c2 : w.cell? ⟨B c, 1, none⟩ = some (.int .i64 n) := by rw [cell_of_row _ _ _ _ _ _ hb]; rfl
    have l1 := block_lt_of c1
    clear h hb hp
    obtain ⟨g, hg⟩ : ∃ g, g = B c := ⟨_, rfl⟩
    rw [← hg] at c1 c2 l1 hl
    clear hg hr
    by_cases hkn : k < n
    · go_enter Try.func11, Try.ntmps11
      go_wp2
      go_ret
      exact ⟨by simp [dueF, hkn], rfl⟩
    · obtain ⟨s, hs⟩ : ∃ s, k - n = s := ⟨_, rfl⟩
      have hs1 : IntKind.i64.wrap (k - n) = s := by rw [hs]; exact wrap_z (by omega)
      have hs2 : IntKind.i64.wrap (s + 1) = s + 1 := wrap_z (by omega)
      have hd : dueF (some ⟨t, n⟩) k = min (s + 1) 64 := by
        simp only [dueF]
        rw [if_neg (by omega), hs]
      by_cases h64 : 64 < s + 1
      · rw [hd, show min (s + 1) 64 = 64 by omega]
        clear hd
        go_enter Try.func11, Try.ntmps11
        go_wp2
        go_ret
        exact ⟨rfl, rfl⟩
      · rw [hd, show min (s + 1) 64 = s + 1 by omega]
        clear hd
        go_enter Try.func11, Try.ntmps11
        go_wp2
        go_ret
        exact ⟨rfl, rfl⟩
theorem Moved_any (c k : Int) (hc : (Lit.int .i64 c).wf = true) (hk : (Lit.int .i64 k).wf = true) (r : Option Fl) (hr : fl c = r) (hp : ∀ x, r = some x → 1 ≤ x.pl ∧ x.pl ≤ 1000000000000000) :
    Calls Try.prog 12 #[.pointer (some ⟨f, 0, none⟩), .int .i64 c, .int .i64 k] w fun e w' => e = .returned (.tuple #[]) ∧ FeedAt w' f m N B (upd fl c (r.map fun x => ⟨x.ten, x.pl + min (max k 0) 1099511627776⟩)) ∧ Fr (fun j => r.isSome = true ∧ j = B c) w w' := by
  have c0 := h.cell
  have lf := block_lt_of c0
  have hkb := bounds_z hk
  have H := Lib.hid h
  have HR := Lib.hid hr
  cases r with
  | none =>
    have hl := run_look_none h hc hr
    clear h
    go_enter Try.func12, Try.ntmps12
    go_wp2
    go_end0
    refine ⟨rfl, ?_, Fr.refl _ _⟩
    have e : upd fl c none = fl := by
      funext i
      by_cases hi : i = c
      · subst hi; rw [upd_same, HR.out]
      · rw [upd_other _ _ hi]
    rw [e]; exact H.out
  | some x =>
    have hl := run_look_some h hc hr
    obtain ⟨t, n⟩ := x
    obtain ⟨hn, hn2⟩ := hp _ rfl
    have hn : 1 ≤ n := hn
    have hn2 : n ≤ 1000000000000000 := hn2
    have hb := (h.blk c _ hr).1
    have c1 : w.cell? ⟨B c, 0, none⟩ = some (.string t) := by rw [cell_of_row _ _ _ _ _ _ hb]; rfl
    have c2 : w.cell? ⟨B c, 1, none⟩ = some (.int .i64 n) := by rw [cell_of_row _ _ _ _ _ _ hb]; rfl
    have l1 := block_lt_of c1
    have z1 : w.frozen? ⟨B c, 1, none⟩ = false := by simp [World.frozen?, hb]
    have HB := Lib.hid hb
    clear h hb hp
    obtain ⟨g, hg⟩ : ∃ g, g = B c := ⟨_, rfl⟩
    have HG := Lib.hid hg
    rw [← hg] at c1 c2 l1 z1 hl
    clear hg
    have fin : Hid (∀ v, v = n + min (max k 0) 1099511627776 → FeedAt (w.setCell ⟨g, 1, none⟩ (.int .i64 v)) f m N B (upd fl c (some ⟨t, n + min (max k 0) 1099511627776⟩)) ∧ Fr (fun j => j = B c) w (w.setCell ⟨g, 1, none⟩ (.int .i64 v))) := Lib.hid (by
      rintro v rfl
      have hf : Fr (fun j => j = B c) w (w.setCell ⟨g, 1, none⟩ (.int .i64 (n + min (max k 0) 1099511627776))) := (Fr.refl _ _).setCell (p := ⟨g, 1, none⟩) (.inl HG.out) _
      refine ⟨H.out.move HR.out ?_ hf, hf⟩
      rw [← HG.out]
      have h1 := HB.out
      rw [← HG.out] at h1
      have := heap_setCell_same w g 1 _ _ (.int .i64 (n + min (max k 0) 1099511627776)) h1
      simpa using this)
    clear HB HG H HR
    by_cases k0 : k < 0
    · have hw : IntKind.i64.wrap (n + 0) = n := by rw [wrap_z (by omega)]; omega
      have hw' : IntKind.i64.wrap n = n := wrap_z (by omega)
      have k0' : ¬ 0 < k := by omega
      go_enter Try.func12, Try.ntmps12
      go_wp2
      go_end0
      exact ⟨rfl, fin.out n (by omega)⟩
    · by_cases k1 : 1099511627776 < k
      · have hw : IntKind.i64.wrap (n + 1099511627776) = n + 1099511627776 := wrap_z (by omega)
        go_enter Try.func12, Try.ntmps12
        go_wp2
        go_end0
        exact ⟨rfl, fin.out _ (by omega)⟩
      · have hw : IntKind.i64.wrap (n + k) = n + k := wrap_z (by omega)
        go_enter Try.func12, Try.ntmps12
        go_wp2
        go_end0
        exact ⟨rfl, fin.out _ (by omega)⟩
end
end Go.Proofs.Ytohaaejonlijeaa
