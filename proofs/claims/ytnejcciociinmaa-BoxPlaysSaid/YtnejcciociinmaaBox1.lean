/- The box in memory, and its short functions. -/
import Derived.Test.YtnejcciociinmaaMem
namespace Go.Proofs.Ytnejcciociinmaa
open Go.RowKit

/-- what was sealed once -/
structure BRow where
  k : List UInt8
  n : List UInt8
  head : List UInt8
  plain : List UInt8
  sealed : List UInt8

/-- a slice value -/
def SlV (w : World) (F : Nat → Prop) (v : Value) (l : List UInt8) : Prop := ∃ A n c, v = .slice A n c ∧ Sl w F A n c l
theorem SlV.fr {w w' : World} {F M : Nat → Prop} {v : Value} {l : List UInt8} (h : SlV w F v l) (hf : Fr M w w') (hF : ∀ k, F k → k < w.heap.size ∧ ¬ M k) : SlV w' F v l := by
  obtain ⟨A, n, c, e, h⟩ := h
  exact ⟨A, n, c, e, h.fr hf hF⟩
theorem SlV.mono {w : World} {F G : Nat → Prop} {v : Value} {l : List UInt8} (h : SlV w F v l) (hF : ∀ k, F k → G k) : SlV w G v l := by
  obtain ⟨A, n, c, e, h⟩ := h
  exact ⟨A, n, c, e, h.mono hF⟩

/-- a row's cells -/
def rowC (r : BRow) (h p s : Value) : List Value := bs r.k ++ (bs r.n ++ [h, p, s])

def RowOk (w : World) (F : Nat → Prop) (r : BRow) (cs : List Value) : Prop :=
  r.k.length = 32 ∧ r.n.length = 12 ∧ r.head.length ≤ 140737488355000 ∧ r.plain.length ≤ 1024 ∧ r.sealed.length ≤ 2048 ∧ ∃ h p s, cs = rowC r h p s ∧ SlV w F h r.head ∧ SlV w F p r.plain ∧ SlV w F s r.sealed

/-- rows, one behind the other -/
def RowsAt (w : World) (F : Nat → Prop) : List BRow → List Value → Prop
  | [], cs => cs = []
  | r :: rs, cs => ∃ c1 c2, cs = c1 ++ c2 ∧ RowOk w F r c1 ∧ RowsAt w F rs c2

theorem RowOk.fr {w w' : World} {F M : Nat → Prop} {r : BRow} {cs : List Value} (h : RowOk w F r cs) (hf : Fr M w w') (hF : ∀ k, F k → k < w.heap.size ∧ ¬ M k) : RowOk w' F r cs := by
  obtain ⟨a, b, c, d, e, x, y, z, e1, e2, e3, e4⟩ := h
  exact ⟨a, b, c, d, e, x, y, z, e1, e2.fr hf hF, e3.fr hf hF, e4.fr hf hF⟩
theorem RowOk.mono {w : World} {F G : Nat → Prop} {r : BRow} {cs : List Value} (h : RowOk w F r cs) (hF : ∀ k, F k → G k) : RowOk w G r cs := by
  obtain ⟨a, b, c, d, e, x, y, z, e1, e2, e3, e4⟩ := h
  exact ⟨a, b, c, d, e, x, y, z, e1, e2.mono hF, e3.mono hF, e4.mono hF⟩
theorem RowOk.length {w : World} {F : Nat → Prop} {r : BRow} {cs : List Value} (h : RowOk w F r cs) : cs.length = 47 := by
  obtain ⟨a, b, _, _, _, x, y, z, rfl, _⟩ := h
  simp [rowC, bs_length, a, b]
theorem RowsAt.fr {w w' : World} {F M : Nat → Prop} (hf : Fr M w w') (hF : ∀ k, F k → k < w.heap.size ∧ ¬ M k) : ∀ (rs : List BRow) (cs : List Value), RowsAt w F rs cs → RowsAt w' F rs cs
  | [], _, h => h
  | _ :: rs, _, ⟨c1, c2, e, h1, h2⟩ => ⟨c1, c2, e, h1.fr hf hF, RowsAt.fr hf hF rs c2 h2⟩
theorem RowsAt.mono {w : World} {F G : Nat → Prop} (hF : ∀ k, F k → G k) : ∀ (rs : List BRow) (cs : List Value), RowsAt w F rs cs → RowsAt w G rs cs
  | [], _, h => h
  | _ :: rs, _, ⟨c1, c2, e, h1, h2⟩ => ⟨c1, c2, e, h1.mono hF, RowsAt.mono hF rs c2 h2⟩
theorem RowsAt.length {w : World} {F : Nat → Prop} : ∀ (rs : List BRow) (cs : List Value), RowsAt w F rs cs → cs.length = rs.length * 47
  | [], _, h => by have h : _ = [] := h; subst h; rfl
  | _ :: rs, _, ⟨c1, c2, e, h1, h2⟩ => by subst e; rw [List.length_append, h1.length, RowsAt.length rs c2 h2, List.length_cons]; omega
theorem RowsAt.append {w : World} {F : Nat → Prop} {r : BRow} {c : List Value} (hr : RowOk w F r c) : ∀ (rs : List BRow) (cs : List Value), RowsAt w F rs cs → RowsAt w F (rs ++ [r]) (cs ++ c)
  | [], _, h => ⟨c, [], by have h : _ = [] := h; subst h; simp, hr, rfl⟩
  | _ :: rs, _, ⟨c1, c2, e, h1, h2⟩ => ⟨c1, c2 ++ c, by subst e; simp, h1, RowsAt.append hr rs c2 h2⟩
theorem RowsAt.at_ {w : World} {F : Nat → Prop} : ∀ (rs : List BRow) (cs : List Value), RowsAt w F rs cs → ∀ (i : Nat) (h : i < rs.length), ∃ c, RowOk w F rs[i] c ∧ ∀ j x, c[j]? = some x → cs[i * 47 + j]? = some x
  | [], _, _, i, hi => by simp at hi
  | r :: rs, _, ⟨c1, c2, e, h1, h2⟩, 0, _ => ⟨c1, h1, fun j x hx => by
      subst e
      have : j < c1.length := (List.getElem?_eq_some_iff.1 hx).1
      rw [Nat.zero_mul, Nat.zero_add, List.getElem?_append_left this]; exact hx⟩
  | r :: rs, _, ⟨c1, c2, e, h1, h2⟩, i + 1, hi => by
      obtain ⟨c, hc, hx⟩ := RowsAt.at_ rs c2 h2 i (by simpa using hi)
      refine ⟨c, hc, fun j x hj => ?_⟩
      subst e
      have := h1.length
      rw [List.getElem?_append_right (by omega), show (i + 1) * 47 + j - c1.length = i * 47 + j by omega]
      exact hx j x hj

/-- a box at block b: its source, its rows; F: all its blocks -/
def BoxAt (w : World) (b : Nat) (F : Nat → Prop) (src : List UInt8) (rows : List BRow) : Prop :=
  (∀ k, F k → k < w.heap.size) ∧ F b ∧ ∃ SA sn sc RA rn rc cs D, w.heap[b]? = some (.cells #[.slice SA sn sc, .slice RA rn rc] 57 (0, 0)) ∧
    (∀ k, D k → F k ∧ k ≠ b ∧ (Value.slice RA rn rc).ownBlock ≠ some k) ∧ Sl w D SA sn sc src ∧ rn = rows.length ∧ w.ownsRow 0 62 47 (.slice RA rn rc) rn cs ∧
    (∀ k, (Value.slice RA rn rc).ownBlock = some k → F k ∧ k ≠ b) ∧ RowsAt w D rows cs ∧ src.length ≤ 140737488355000

theorem own_fr {w w' : World} {base e size n : Nat} {v : Value} {xs : List Value} {M : Nat → Prop} (h : w.ownsRow base e size v n xs) (hf : Fr M w w') (hM : ∀ k, v.ownBlock = some k → ¬ M k) : w'.ownsRow base e size v n xs := by
  refine ⟨h.1, ?_⟩
  rcases h.2 with hn | ⟨g, cap, cur, rfl, hb, hgg, rest⟩
  · exact .inl hn
  · refine .inr ⟨g, cap, cur, rfl, hb, ?_, rest⟩
    rw [hf.block g (Array.getElem?_eq_some_iff.1 hgg).1 (hM g rfl)]
    exact hgg

theorem BoxAt.fr {w w' : World} {b : Nat} {F M : Nat → Prop} {src : List UInt8} {rows : List BRow} (h : BoxAt w b F src rows) (hf : Fr M w w') (hM : ∀ k, F k → ¬ M k) : BoxAt w' b F src rows := by
  obtain ⟨h1, h2, SA, sn, sc, RA, rn, rc, cs, D, hb, hD, hs, hrn, ho, hro, hr, hl⟩ := h
  have hDM : ∀ k, D k → k < w.heap.size ∧ ¬ M k := fun k hk => ⟨h1 k (hD k hk).1, hM k (hD k hk).1⟩
  exact ⟨fun k hk => Nat.lt_of_lt_of_le (h1 k hk) hf.size, h2, SA, sn, sc, RA, rn, rc, cs, D, (hf.block b (h1 b h2) (hM b h2)).trans hb, hD, hs.fr hf hDM, hrn, own_fr ho hf (fun k hk => hM k (hro k hk).1), hro, RowsAt.fr hf hDM rows cs hr, hl⟩

theorem New_any {F : Nat → Prop} {A : Option Addr} {n c : Nat} {l : List UInt8} {w : World} (h : Sl w F A n c l) (hF : ∀ k, F k → k < w.heap.size) (hl : n ≤ 140737488355000) :
    Calls Try.prog 8 #[.slice A n c] w fun e w' => ∃ b G, e = .returned (.pointer (some ⟨b, 0, none⟩)) ∧ BoxAt w' b G l [] ∧ Below w.heap.size w w' ∧ ∀ k, G k → w.heap.size ≤ k := by
  go_enter Try.func8, Try.ntmps8
  go_wp2_with (go_at_call 25; refine (Clone_sl h hF (by omega)).mono ?_; rintro e w1 ⟨A1, c1, rfl, hown, hbw⟩)
  go_ret
  have hs := hbw.size
  have hsl := (Sl.of_own hown).fr (M := NoB) (Fr.alloc (Fr.refl _ _) (.cells #[.slice A1 n c1, .slice none 0 0] 57)) (fun k hk => ⟨hk.2.1, id⟩)
  refine ⟨w1.heap.size, fun k => w.heap.size ≤ k ∧ k < w1.heap.size + 1, rfl, ⟨fun k hk => by simp; omega, ⟨by omega, by omega⟩, A1, n, c1, none, 0, 0, [], _, heap_alloc_new _ _, ?_, hsl, rfl, World.ownsRow_nil _ _ _ _, ?_, rfl, ?_⟩, hbw.alloc hs _, fun k hk => hk.1⟩
  · intro k hk
    exact ⟨⟨hk.1, by omega⟩, by omega, by simp [Value.ownBlock]⟩
  · intro k hk; simp [Value.ownBlock] at hk
  · have := h.len; omega

/-- filling bytes by those that are drawn -/
def drawn (n : Nat) (src : List UInt8) : List UInt8 := src.take n ++ List.replicate (n - src.length) 0

theorem setCell_block (w : World) (b i : Nat) (cs : Array Value) (t : TypeId) (v : Value) (h : w.heap[b]? = some (.cells cs t (0, 0))) :
    (w.setCell ⟨b, i, none⟩ v).heap[b]? = some (.cells (cs.setIfInBounds i v) t (0, 0)) := heap_setCell_same w b i cs t v h

theorem draw_any (b : Nat) (F : Nat → Prop) (src : List UInt8) (rows : List BRow) (w : World) (h : BoxAt w b F src rows) (g o m c base N C : Nat) (pre : List UInt8) (hN : N = o + m)
    (hown : w.ownsRow base 5 1 (.slice (some ⟨g, 0, none⟩) N C) N (bs (pre ++ List.replicate m 0))) (ho : pre.length = o) (hg : ¬ F g) :
    Calls Try.prog 26 #[.pointer (some ⟨b, 0, none⟩), .slice (some ⟨g, o, none⟩) m c] w fun e w' => e = .returned (.tuple #[]) ∧ BoxAt w' b F (src.drop m) rows ∧ Fr (fun k => F k ∨ k = g) w w' ∧
      w'.ownsRow base 5 1 (.slice (some ⟨g, 0, none⟩) N C) N (bs (pre ++ drawn m src)) := by
  obtain ⟨h1, h2, SA, sn, sc, RA, rn, rc, cs, D, hb, hD, hs, hrn, hro, hrb, hr, hl⟩ := h
  have Hb := Lib.hid hb
  have c0 : w.cell? ⟨b, 0, none⟩ = some (.slice SA sn sc) := by rw [cell_of_row w b 0 _ _ _ hb]; rfl
  have c1 : w.cell? ⟨b, 1, none⟩ = some (.slice RA rn rc) := by rw [cell_of_row w b 1 _ _ _ hb]; rfl
  have f0 : w.frozen? ⟨b, 0, none⟩ = false := frozen_of_row w b 0 _ _ hb
  clear hb
  have hxn := Lib.hid (show (pre ++ List.replicate m 0).take o ++ (src.take m ++ (pre ++ List.replicate m 0).drop (o + min sn m)) = pre ++ drawn m src by
    have := hs.len
    rw [← ho, List.take_left', List.drop_append]
    · simp only [List.drop_replicate, drawn]
      rw [List.drop_of_length_le (by omega), List.nil_append, show m - (pre.length + min sn m - pre.length) = m - src.length by omega]
    · rfl)
  have hN1 : o + m ≤ N := by omega
  clear hN
  go_enter Try.func26, Try.ntmps26
  go_wp2_with (
    (with_reducible refine copy_bytes rfl (.tmp 5) (.tmp 9) rfl base g o m c N C _ rfl hown (by omega) rfl hs ?_)
    intro w1 hown1 hg1
    have hbg : (⟨b, 0, none⟩ : Addr).block ≠ g := fun e => hg (by rw [← e]; exact h2)
    have c0' := hg1.cell c0 (fun e => hbg (by injection e))
    have f0' : w1.frozen? ⟨b, 0, none⟩ = false := (World.frozen?_of_block (hg1.block b (h1 b h2) (fun e => hbg (by injection e)))).trans f0
    have hmin : min sn m ≤ sn := Nat.min_le_left _ _
    have hcap := hs.cap)
  all_goals
    go_end0
    have hfr : Fr (fun k => k = b ∨ k = g) w w1 := (Fr.of_grown hg1).mono (fun i _ e => .inr (by injection e))
    have hfr' := hfr.setCell (p := ⟨b, 0, none⟩) (.inl (.inl rfl))
    have hbw1 : w1.heap[b]? = _ := (hg1.block b (h1 b h2) (fun e => hbg (by injection e))).trans Hb.out
    have hDM : ∀ k, D k → k < w.heap.size ∧ ¬ (k = b ∨ k = g) := fun k hk => ⟨h1 k (hD k hk).1, by
      rintro (rfl | rfl)
      · exact (hD _ hk).2.1 rfl
      · exact hg (hD _ hk).1⟩
    have hsd : src.drop (min sn m) = src.drop m := by
      have := hs.len
      rcases Nat.le_total sn m with h | h
      · rw [Nat.min_eq_left h, List.drop_of_length_le (by omega), List.drop_of_length_le (by omega)]
      · rw [Nat.min_eq_right h]
    rw [hxn.out] at hown1
    refine ⟨rfl, ⟨fun k hk => Nat.lt_of_lt_of_le (h1 k hk) (hfr' _).size, h2, _, _, _, RA, rn, rc, cs, D, setCell_block _ _ _ _ _ _ hbw1, hD, ?_, hrn, own_fr hro (hfr' _) (fun k hk => ?_), hrb, RowsAt.fr (hfr' _) hDM rows cs hr, ?_⟩, ((hfr' _).mono ?_), ?_⟩
    · refine Sl.fr (M := fun k => k = b ∨ k = g) (w := w) ?_ (hfr' _) hDM
      rw [← hsd]
      first
        | exact hs.drop_ hmin (.inr rfl)
        | (have hz := hs.drop_ hmin (.inl ⟨rfl, by assumption⟩)
           rw [show sc - min sn m = 0 by omega] at hz
           exact hz)
    · have := hrb k hk
      rintro (rfl | rfl)
      · exact this.2 rfl
      · exact hg this.1
    · rw [List.length_drop]; omega
    · rintro i _ (rfl | rfl)
      · exact .inl h2
      · exact .inr rfl
    · exact own_fr hown1 ((Fr.refl (fun k => k = b) _).setCell (.inl rfl) _) (fun k hk e => by
        simp [Value.ownBlock] at hk; subst hk; exact hbg e.symm)

theorem Len_any (b : Nat) (F : Nat → Prop) (src : List UInt8) (rows : List BRow) (w : World) (h : BoxAt w b F src rows) :
    Calls Try.prog 22 #[.pointer (some ⟨b, 0, none⟩)] w fun e w' => e = .returned (.int .i64 (rows.length : Nat)) ∧ w = w' := by
  obtain ⟨h1, h2, SA, sn, sc, RA, rn, rc, cs, D, hb, hD, hs, rfl, hro, hrb, hr, hl⟩ := h
  have c1 : w.cell? ⟨b, 1, none⟩ = some (.slice RA rows.length rc) := by rw [cell_of_row w b 1 _ _ _ hb]; rfl
  clear hb
  go_enter Try.func22, Try.ntmps22
  go_wp2
  go_ret
  exact ⟨rfl, rfl⟩

/-- the number of bytes, the lowest first -/
def le (l : List UInt8) : Nat := l.foldr (fun u n => u.toNat + 256 * n) 0
/-- the same as an int64 -/
def numI (l : List UInt8) (k : Nat) : Int := wrap64 (le ((l.take 8).drop k) : Nat)
theorem le_drop (l : List UInt8) (k : Nat) (h : k < l.length) : le (l.drop k) = l[k].toNat + 256 * le (l.drop (k + 1)) := by
  rw [List.drop_eq_getElem_cons h]; rfl
theorem toNat_or64 (x u : Nat) (hu : u < 256) : (BitVec.ofInt 64 (wrap64 (wrap64 (x : Int) * 256)) ||| BitVec.ofInt 64 (u : Int)).toNat = (x * 256) % 18446744073709551616 + u := by
  rw [BitVec.toNat_or, BitVec.toNat_ofInt, BitVec.toNat_ofInt]
  have e1 : (wrap64 (wrap64 (x : Int) * 256) % ((2 ^ 64 : Nat) : Int)).toNat = (x * 256) % 18446744073709551616 := by
    unfold wrap64; simp only [Nat.reducePow]; omega
  have e2 : ((u : Int) % ((2 ^ 64 : Nat) : Int)).toNat = u := by simp only [Nat.reducePow]; omega
  rw [e1, e2]
  exact nat_join 8 _ u (by simp only [Nat.reducePow]; omega) (by simpa using hu)
theorem numI_step (l : List UInt8) (k : Nat) (hk : k < 8) (h : k < l.length) : bits .or .i64 (wrap64 (numI l (k + 1) * 256)) (l[k].toNat : Int) = numI l k := by
  have hu := l[k].toNat_lt
  have e : le ((l.take 8).drop k) = l[k].toNat + 256 * le ((l.take 8).drop (k + 1)) := by
    rw [le_drop _ k (by rw [List.length_take]; omega), List.getElem_take]
  unfold numI
  rw [e]
  show IntKind.i64.wrap ((BitVec.ofInt 64 _ ||| BitVec.ofInt 64 _).toNat : Int) = _
  rw [toNat_or64 _ _ hu, IntKind.wrap_i64]
  generalize le ((l.take 8).drop (k + 1)) = x
  generalize l[k].toNat = u at *
  unfold wrap64
  omega
theorem numI_8 (l : List UInt8) : numI l 8 = 0 := by
  unfold numI
  rw [List.drop_of_length_le (by rw [List.length_take]; omega)]
  simp [le, wrap64]
theorem numI_bd (l : List UInt8) (k : Nat) : -9223372036854775808 ≤ numI l k ∧ numI l k ≤ 9223372036854775807 := by
  unfold numI wrap64; omega
/-- where number says a row may be: -1: none -/
def numOf (l : List UInt8) (n : Nat) : Int := if l.length < 8 then -1 else if numI l 0 < 0 then -1 else if (n : Int) ≤ numI l 0 then -1 else numI l 0

theorem number_any (b : Nat) (F G : Nat → Prop) (src : List UInt8) (rows : List BRow) (w : World) (h : BoxAt w b F src rows) (A : Option Addr) (n c : Nat) (l : List UInt8) (hs : Sl w G A n c l) :
    Calls Try.prog 28 #[.pointer (some ⟨b, 0, none⟩), .slice A n c] w fun e w' => e = .returned (.int .i64 (numOf l rows.length)) ∧ w = w' := by
  obtain ⟨h1, h2, SA, sn, sc, RA, rn, rc, cs, D, hb, hD, hss, rfl, hro, hrb, hr, hl⟩ := h
  have c1 : w.cell? ⟨b, 1, none⟩ = some (.slice RA rows.length rc) := by rw [cell_of_row w b 1 _ _ _ hb]; rfl
  have hlen := hs.len
  clear hb hss hro hr hD h1 hrb
  by_cases h8 : n < 8
  · have hfin := Lib.hid (show numOf l rows.length = -1 by unfold numOf; rw [if_pos (by omega)])
    go_enter Try.func28, Try.ntmps28
    go_wp2
    go_ret
    exact ⟨ret_int hfin.out.symm, rfl⟩
  · have hbd := numI_bd l 0
    have f1 := fun (h : numI l 0 < 0) => Lib.hid (show numOf l rows.length = -1 by unfold numOf; rw [if_neg (by omega), if_pos h])
    have f2 := fun (h : ¬ numI l 0 < 0) (h' : (rows.length : Int) ≤ numI l 0) => Lib.hid (show numOf l rows.length = -1 by unfold numOf; rw [if_neg (by omega), if_neg h, if_pos h'])
    have f3 := fun (h : ¬ numI l 0 < 0) (h' : ¬ (rows.length : Int) ≤ numI l 0) => Lib.hid (show numOf l rows.length = numI l 0 by unfold numOf; rw [if_neg (by omega), if_neg h, if_neg h'])
    go_enter Try.func28, Try.ntmps28
    go_wp2
    go_loop [5, 6] (fun at_ i => ∃ k : Nat, k ≤ 8 ∧ i = .int .i64 ((k : Int) - 1) ∧ at_ = .int .i64 (numI l k)) (fun _ i => (intOf i + 1).toNat)
    case atStart => exact ⟨8, by omega, rfl, by rw [numI_8]⟩
    case round =>
      obtain ⟨k, hk, rfl, rfl⟩ := hrel
      rcases k with _ | k
      · by_cases g1 : numI l 0 < 0
        · have hfin := f1 g1; clear f1 f2 f3
          go_wp2
          go_ret
          exact ⟨ret_int hfin.out.symm, rfl⟩
        · by_cases g2 : (rows.length : Int) ≤ numI l 0
          · have hfin := f2 (by omega) (by omega); clear f1 f2 f3
            have g3 : decide (numI l 0 < 0) = false := by simpa using g1
            go_wp2
            go_ret
            exact ⟨ret_int hfin.out.symm, rfl⟩
          · have hfin := f3 (by omega) (by omega); clear f1 f2 f3
            have g3 : decide (numI l 0 < 0) = false := by simpa using g1
            have g4 : decide ((rows.length : Int) ≤ numI l 0) = false := by simpa using g2
            go_wp2
            go_ret
            exact ⟨ret_int hfin.out.symm, rfl⟩
      · clear f1 f2 f3
        obtain ⟨ad, rfl, hc⟩ := hs.rd.at_ (j := k) (by omega)
        have e1 : ((k + 1 : Nat) : Int) - 1 = (k : Int) := by omega
        have hub : (l[k].toNat : Int) < 256 := by have := l[k].toNat_lt; omega
        have hst := Lib.hid (numI_step l k (by omega) (by omega))
        go_wp2
        go_round
        case rel => exact ⟨k, by omega, rfl, by rw [hst.out]⟩
        case measure => simp [intOf] <;> omega
end Go.Proofs.Ytnejcciociinmaa
