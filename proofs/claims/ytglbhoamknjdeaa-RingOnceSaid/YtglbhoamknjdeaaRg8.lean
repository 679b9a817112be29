/- RingOnce's walk. -/
import Derived.Test.YtglbhoamknjdeaaRg7
namespace Go.Proofs.Ytglbhoamknjdeaa
open Go.RowKit
attribute [local go_sem] yld yldUpon_value

/-- what holds ahead of each round -/
structure OnceI (w w' : World) (b m g u : Nat) (sh : Bool) : Prop where
  r : RingAt w' b m (LL u sh)
  ub : u ≤ 200
  t : w'.heap[g]? = some (.cells (tk u).toArray 27 (0, 0))
  ord : w.heap.size ≤ b ∧ w.heap.size ≤ m ∧ b < g ∧ m < g
  fr : Fr (Iv w.heap.size (g + 1)) w w'
theorem OnceI.bel {w w' w2 : World} {b m g u : Nat} {sh : Bool} (h : OnceI w w' b m g u sh) (hb : Below w'.heap.size w' w2) : OnceI w w2 b m g u sh :=
  ⟨h.r.bel hb, h.ub, heap_bel h.t hb, h.ord, h.fr.tr (Fr.of_below hb)⟩
theorem OnceI.ring {w w' w2 : World} {b m g u v : Nat} {sh s2 : Bool} (h : OnceI w w' b m g u sh) (hr : RingAt w2 b m (LL v s2)) (hf : Fr (fun j => j = m) w' w2) : OnceI w w2 b m g u sh → v = u → OnceI w w2 b m g v s2 := fun _ e => by
  subst e
  exact ⟨hr, h.ub, (hf.block g (Array.getElem?_eq_some_iff.1 h.t).1 (by have := h.ord; omega)).trans h.t, h.ord, h.fr.trans hf (fun i _ e => by have := h.ord; subst e; exact ⟨by omega, by omega⟩)⟩
theorem OnceI.shred {w w' w2 : World} {b m g u : Nat} {sh s2 : Bool} (h : OnceI w w' b m g u sh) (hr : RingAt w2 b m (LL u s2)) (hf : Fr (fun j => j = m) w' w2) : OnceI w w2 b m g u s2 :=
  ⟨hr, h.ub, (hf.block g (Array.getElem?_eq_some_iff.1 h.t).1 (by have := h.ord; omega)).trans h.t, h.ord, h.fr.trans hf (fun i _ e => by have := h.ord; subst e; exact ⟨by omega, by omega⟩)⟩
theorem OnceI.lt {w w' : World} {b m g u : Nat} {sh : Bool} (h : OnceI w w' b m g u sh) : g < w'.heap.size := (Array.getElem?_eq_some_iff.1 h.t).1

theorem setCell_block2 (w : World) (b i : Nat) (cs : Array Value) (t : TypeId) (v : Value) (h : w.heap[b]? = some (.cells cs t (0, 0))) :
    (w.setCell ⟨b, i, none⟩ v).heap[b]? = some (.cells (cs.setIfInBounds i v) t (0, 0)) := heap_setCell_same w b i cs t v h
set_option maxRecDepth 100000 in
set_option maxHeartbeats 8000000 in
theorem RingOnce_any (w : World) (A : Option Addr) (n c : Nat) (l : List Int) (h : IntSl w (Old w) A n c l) (hn : n ≤ 140737488355000) :
    Calls Try.prog 3 #[.slice A n c] w fun e w' => e = .returned (.bool true) ∧ Below w.heap.size w w' := by
  have H := Lib.hid h
  have HLn := Lib.hid h.len
  clear h
  obtain ⟨it, hit, zt⟩ := Option.map_eq_some_iff.1 Try.infoT
  simp only [Prod.mk.injEq] at zt
  have Hit := Lib.hid hit; have Hzt := Lib.hid zt.1
  clear hit zt
  go_enter Try.func3, Try.ntmps3
  go_wp2_with fail
  refine (New_any w).mono ?_
  rintro e w1 ⟨b, m, rfl, hr1, hb1, hbb, hmm⟩
  have R1 := Lib.hid hr1; have B1 : Hid (Fr (fun j => j = m) w w1) := Fr.of_below hb1; have HM : Hid (w.heap.size ≤ b ∧ w.heap.size ≤ m) := ⟨hbb, hmm⟩
  clear hr1 hb1 hbb hmm
  go_wp2_with fail
  refine (Make_at w1 b m [] R1.out ann sS fits_as 1 rfl 0 _ mkA).mono ?_
  rintro e w2 ⟨rfl, hr2, hf2⟩
  have R2 := Lib.hid hr2; have B2 := Lib.hid (B1.out.tr hf2)
  clear hr2 hf2 R1 B1
  go_wp2_with fail
  refine (Make_at w2 b m _ R2.out ann tT fits_at 2 rfl 0 (LL 0 false) mkB).mono ?_
  rintro e w3 ⟨rfl, hr3, hf3⟩
  have R3 := Lib.hid hr3; have B3 := Lib.hid (B2.out.tr hf3)
  clear hr3 hf3 R2 B2
  go_wp2_with (
    (with_reducible refine lst_alloc_d 4 rfl 27 rfl it _ Hit.out Hzt.out ?_ ?_)
    (focus rfl)
    intro g w4 Hg4 Hh4 hb4)
  have I4 : Hid (OnceI w w4 b m g 0 false) := by
    have hl := R3.out.lt; have e := Hg4.out
    exact ⟨R3.out.bel hb4, by omega, Hh4.out, by have := HM.out; omega, (B3.out.tr (Fr.of_below hb4)).mono (fun i _ e => by have := HM.out; subst e; exact ⟨by omega, by omega⟩)⟩
  clear Hg4 Hh4 hb4 B3 R3 HM Hit Hzt
  go_loopw [5, 6] (fun s i wr => ∃ (k u : Nat) (sh : Bool), k ≤ n ∧ k ≤ 300 ∧ i = .int .i64 (k : Nat) ∧ s = .bool sh ∧ Hid (OnceI w wr b m g u sh)) (fun _ i _ => n - (intOf i).toNat)
  case atStart => exact ⟨0, 0, false, by omega, by omega, rfl, rfl, I4.out⟩
  case round =>
    clear I4
    obtain ⟨k, u, sh, hk, hk3, rfl, rfl, HI⟩ := hrel
    by_cases hgo : k < n ∧ k < 300
    · obtain ⟨hlt, h300⟩ := hgo
      have hkI : (k : Int) < (n : Int) := by omega
      have hk0 : (0 : Int) ≤ (k : Int) := by omega
      have hk3I : (k : Int) < 300 := by omega
      have hkl : k < l.length := by have := HLn.out; omega
      obtain ⟨ad, rfl, hF, hcl⟩ := H.out.at_ k hkl
      obtain ⟨x, hx⟩ : ∃ x, x = l[k] := ⟨_, rfl⟩
      rw [← hx] at hcl
      have hxw := wf_i64 (by rw [hx]; exact H.out.wf _ (List.getElem_mem hkl) : (Lit.int .i64 x).wf = true)
      have HXw : Hid ((Lit.int .i64 x).wf = true) := by rw [hx]; exact H.out.wf _ (List.getElem_mem hkl)
      have HF : Hid ((ad.add k).block < w.heap.size) := by show _ < _; rw [addr_add_block]; exact hF
      have hcl2 : ∀ w', Fr (Iv w.heap.size (g + 1)) w w' → w'.cell? (ad.add k) = some (.int .i64 x) := fun w' hf => cell_fr hcl hf (fun e => by have := e.1; have := HF.out; omega)
      have HC := Lib.hid hcl2
      have hc0 := hcl2 wr HI.out.fr
      clear hx hcl hcl2 hF
      by_cases hx0 : x = 0
      · subst hx0
        cases sh with
        | true =>
          go_wp2_with (go_at_call 10; refine (Shred_at wr b m (LL u true) HI.out.r ann sS fits_as 17 (LL u true) (shr_t u)).mono ?_; rintro e w5 ⟨rfl, hr5, hf5⟩)
          go_roundw
          case rel => exact ⟨k + 1, u, true, by omega, by omega, by go_num, rfl, HI.out.shred hr5 hf5⟩
          case measure => simp [intOf]; omega
        | false =>
          go_wp2_with (go_at_call 10; refine (Shred_at wr b m (LL u false) HI.out.r ann sS fits_as 0 (LL u true) (shr_f u)).mono ?_; rintro e w5 ⟨rfl, hr5, hf5⟩)
          go_roundw
          case rel => exact ⟨k + 1, u, true, by omega, by omega, by go_num, rfl, HI.out.shred hr5 hf5⟩
          case measure => simp [intOf]; omega
      · have hx0b : (x == 0) = false := by simpa using hx0
        go_wp2_with fail
        refine (Hold_at wr b m (LL u sh) HI.out.r ann sS fits_as _ (look_s u sh) ⟨1, (u : Int), sh⟩ rfl true rfl).mono ?_
        rintro e w5 ⟨rfl, hb5⟩
        have I6 := Lib.hid (HI.out.bel (hb5.alloc hb5.size (.cells #[.int .i64 1, .int .i64 (u : Int), .bool sh] 30)))
        have h8 := Lib.hid (heap_alloc_new w5 (.cells #[.int .i64 1, .int .i64 (u : Int), .bool sh] 30))
        have hc6 := HC.out _ I6.out.fr
        have hg8 : Hid (g < w5.heap.size) := Nat.lt_of_lt_of_le HI.out.lt hb5.size
        clear hb5 hc0
        go_wp2_with fail
        generalize w5.alloc (.cells #[.int .i64 1, .int .i64 (u : Int), .bool sh] 30) = w6 at I6 h8 hc6 ⊢
        generalize w5.heap.size = g8 at h8 hg8 ⊢
        have hcase : (∃ cd : Int, (cd = 1 ∨ cd = 17 ∨ cd = 16) ∧ useR (LL u sh) (ann, sS) x = (cd, LL u sh)) ∨ (∃ X : Nat, x = (X : Int) ∧ 1 ≤ X ∧ u + X ≤ 200 ∧ sh = false ∧ useR (LL u sh) (ann, sS) x = (0, LL (u + X) sh)) := by
          by_cases h1 : x < 1
          · exact .inl ⟨1, .inl rfl, use_1 u sh x h1⟩
          · cases sh with
            | true => exact .inl ⟨17, .inr (.inl rfl), use_17 u x h1⟩
            | false =>
              by_cases h2 : 200 - (u : Int) < x
              · exact .inl ⟨16, .inr (.inr rfl), use_16 u x h1 h2⟩
              · refine .inr ⟨x.toNat, by omega, by omega, by omega, rfl, ?_⟩
                have e : ((x.toNat : Nat) : Int) = x := by omega
                have := use_0 u x.toNat (by omega) (by omega)
                rw [e] at this
                exact this
        rcases hcase with ⟨cd, hcd, hU⟩ | ⟨X, rfl, hX1, hX2, rfl, hU⟩
        · have HU := Lib.hid hU
          clear hU
          go_wp2_with fail
          refine (Use_at w6 b m (LL u sh) I6.out.r ann sS fits_as x HXw.out cd (LL u sh) HU.out).mono ?_
          rintro e w7 ⟨rfl, hr7, hf7⟩
          have I7 := Lib.hid (I6.out.shred hr7 hf7)
          have h87 := Lib.hid ((hf7.block g8 (Array.getElem?_eq_some_iff.1 h8.out).1 (by have := I6.out.ord; have := hg8.out; omega)).trans h8.out)
          clear hr7 hf7 I6 h8 hc6
          go_wp2_with fail
          refine (Hold_at w7 b m (LL u sh) I7.out.r ann sS fits_as _ (look_s u sh) ⟨1, (u : Int), sh⟩ rfl true rfl).mono ?_
          rintro e w8 ⟨rfl, hb8⟩
          have I9 := Lib.hid (I7.out.bel (hb8.alloc hb8.size (.cells #[.int .i64 1, .int .i64 (u : Int), .bool sh] 30)))
          have h11 := Lib.hid (heap_alloc_new w8 (.cells #[.int .i64 1, .int .i64 (u : Int), .bool sh] 30))
          have h89 := heap_bel h87.out (hb8.alloc hb8.size (.cells #[.int .i64 1, .int .i64 (u : Int), .bool sh] 30))
          clear hb8 h87
          rcases hcd with rfl | rfl | rfl
          all_goals
            have d0 : (w8.alloc (.cells #[.int .i64 1, .int .i64 (u : Int), .bool sh] 30)).cell? ⟨g8, 0, none⟩ = some (.int .i64 1) := by rw [cell_of_row _ g8 0 _ _ _ h89]; rfl
            have d1 : (w8.alloc (.cells #[.int .i64 1, .int .i64 (u : Int), .bool sh] 30)).cell? ⟨g8, 1, none⟩ = some (.int .i64 (u : Int)) := by rw [cell_of_row _ g8 1 _ _ _ h89]; rfl
            have d2 : (w8.alloc (.cells #[.int .i64 1, .int .i64 (u : Int), .bool sh] 30)).cell? ⟨g8, 2, none⟩ = some (.bool sh) := by rw [cell_of_row _ g8 2 _ _ _ h89]; rfl
            clear h89 h11
            go_wp2_with fail
            go_roundw
            case rel => exact ⟨k + 1, u, sh, by omega, by omega, by go_num, rfl, I9.out⟩
            case measure => simp [intOf]; omega
        · obtain ⟨V, hV⟩ : ∃ V, V = u + X := ⟨_, rfl⟩
          rw [← hV] at hU hX2
          have HU := Lib.hid hU; have HV := Lib.hid hV
          clear hU hx0 hV
          go_wp2_with fail
          refine (Use_at w6 b m (LL u false) I6.out.r ann sS fits_as (X : Int) HXw.out 0 (LL V false) HU.out).mono ?_
          rintro e w7 ⟨rfl, hr7, hf7⟩
          have hg7 : Hid (w7.heap[g]? = some (.cells (tk u).toArray 27 (0, 0))) := (hf7.block g I6.out.lt (by have := I6.out.ord; omega)).trans I6.out.t
          have hf17 : Hid (Fr (Iv w.heap.size (g + 1)) w w7) := I6.out.fr.trans hf7 (fun i _ e => by have := I6.out.ord; subst e; exact ⟨by omega, by omega⟩)
          have hr7' := Lib.hid hr7
          have hord := Lib.hid I6.out.ord
          have h87 := Lib.hid ((hf7.block g8 (Array.getElem?_eq_some_iff.1 h8.out).1 (by have := I6.out.ord; have := hg8.out; omega)).trans h8.out)
          clear hr7 hf7 I6 h8 hc6
          go_wp2_with fail
          refine (Hold_at w7 b m (LL V false) hr7'.out ann sS fits_as _ (look_s V false) ⟨1, (V : Int), false⟩ rfl true rfl).mono ?_
          rintro e w8 ⟨rfl, hb8⟩
          have hb9 : Hid (Below w7.heap.size w7 (w8.alloc (.cells #[.int .i64 1, .int .i64 (V : Int), .bool false] 30))) := hb8.alloc hb8.size (.cells #[.int .i64 1, .int .i64 (V : Int), .bool false] 30)
          have h11 := Lib.hid (heap_alloc_new w8 (.cells #[.int .i64 1, .int .i64 (V : Int), .bool false] 30))
          have h89 := Lib.hid (heap_bel h87.out hb9.out)
          have hg9 := Lib.hid (heap_bel hg7.out hb9.out)
          have hr9 := Lib.hid (hr7'.out.bel hb9.out)
          have hf19 : Hid (Fr (Iv w.heap.size (g + 1)) w (w8.alloc (.cells #[.int .i64 1, .int .i64 (V : Int), .bool false] 30))) := hf17.out.tr (Fr.of_below hb9.out)
          have hg811 : Hid (g8 < w8.heap.size) := Nat.lt_of_lt_of_le (Array.getElem?_eq_some_iff.1 h87.out).1 hb8.size
          clear hb8 h87 hg7 hr7' hf17 hb9
          go_wp2_with fail
          generalize w8.alloc (.cells #[.int .i64 1, .int .i64 (V : Int), .bool false] 30) = w9 at h11 h89 hg9 hr9 hf19 ⊢
          generalize w8.heap.size = g11 at h11 hg811 ⊢
          have d1 : w9.cell? ⟨g8, 1, none⟩ = some (.int .i64 (u : Int)) := by rw [cell_of_row w9 g8 1 _ _ _ h89.out]; rfl
          have e1 : w9.cell? ⟨g11, 1, none⟩ = some (.int .i64 (V : Int)) := by rw [cell_of_row w9 g11 1 _ _ _ h11.out]; rfl
          have cx : w9.cell? (ad.add k) = some (.int .i64 (X : Int)) := HC.out w9 hf19.out
          have l8 : g8 < w9.heap.size := block_lt_of d1
          have l11 : g11 < w9.heap.size := block_lt_of e1
          have lx : (ad.add k).block < w9.heap.size := block_lt_of cx
          have hXp : ¬ (X : Int) < 1 := by omega
          have hsum : IntKind.i64.wrap ((u : Int) + (X : Int)) = (V : Int) := by have := HV.out; rw [IntKind.wrap_i64]; omega
          have hle : ¬ (200 : Int) < (V : Int) := by omega
          have hu0 : ¬ (u : Int) < 0 := by omega
          refine wp_calm ?_
          refine wp_region_os (fun _ w' => Below (w9).drew.heap.size (w9).drew w') [5, 10, 12, 16, 22, 27] (.move 0 (.move 1 (.move 2 (.move 3 (.move 4 (.take 5 (.move 6 (.move 7 (.move 8 (.move 9 (.take 10 (.move 11 (.take 12 (.move 13 (.move 14 (.move 15 (.take 16 (.move 17 (.move 18 (.move 19 (.move 20 (.move 21 (.take 22 (.move 23 (.move 24 (.move 25 (.move 26 (.take 27 (.move 28 (.move 29 .done)))))))))))))))))))))))))))))) (by kernel_rfl) (by kernel_rfl) (fun _ _ _ _ _ h => nomatch h.1) ?_
          have hS0 : Below (w9).drew.heap.size (w9).drew (w9).drew := Below.refl _ _
          refine os_move rfl rfl rfl (Nat.le_of_ble_eq_true rfl) ?_
          apply Exists.intro
          refine ⟨fun w' K hK => ?_, ?_⟩
          (focus
            go_simp
            exact hK)
          refine os_move rfl rfl rfl (Nat.le_of_ble_eq_true rfl) ?_
          apply Exists.intro
          refine ⟨fun w' K hK => ?_, ?_⟩
          (focus
            go_simp
            exact hK)
          refine os_moveg rfl rfl rfl (Nat.le_of_ble_eq_true rfl) ?_
          apply Exists.intro
          refine ⟨fun w' K hK => ?_, ?_⟩
          (focus
            go_simp
            exact hK)
          refine os_moveg rfl rfl rfl (Nat.le_of_ble_eq_true rfl) ?_
          apply Exists.intro
          refine ⟨fun w' K hK => ?_, ?_⟩
          (focus
            go_simp
            exact hK)
          refine os_moveg rfl rfl rfl (Nat.le_of_ble_eq_true rfl) ?_
          apply Exists.intro
          refine ⟨fun w' K hK => ?_, ?_⟩
          (focus
            go_simp
            exact hK)
          refine os_yldg hS0 rfl rfl rfl (Nat.le_of_ble_eq_true rfl) ?_
          apply Exists.intro
          refine ⟨fun w' hS' K hK => ?_, ?_⟩
          (focus
            obtain ⟨hcc, hff⟩ := bcellB (Below.undr hS')
            clear hS'
            go_simp
            exact hK)
          refine os_moveg rfl rfl rfl (Nat.le_of_ble_eq_true rfl) ?_
          apply Exists.intro
          refine ⟨fun w' K hK => ?_, ?_⟩
          (focus
            go_simp
            exact hK)
          refine os_move rfl rfl rfl (Nat.le_of_ble_eq_true rfl) ?_
          apply Exists.intro
          refine ⟨fun w' K hK => ?_, ?_⟩
          (focus
            go_simp
            exact hK)
          refine os_move rfl rfl rfl (Nat.le_of_ble_eq_true rfl) ?_
          apply Exists.intro
          refine ⟨fun w' K hK => ?_, ?_⟩
          (focus
            go_simp
            exact hK)
          refine os_moveg rfl rfl rfl (Nat.le_of_ble_eq_true rfl) ?_
          apply Exists.intro
          refine ⟨fun w' K hK => ?_, ?_⟩
          (focus
            go_simp
            exact hK)
          refine os_yldg hS0 rfl rfl rfl (Nat.le_of_ble_eq_true rfl) ?_
          apply Exists.intro
          refine ⟨fun w' hS' K hK => ?_, ?_⟩
          (focus
            obtain ⟨hcc, hff⟩ := bcellB (Below.undr hS')
            clear hS'
            go_simp
            exact hK)
          refine os_moveg rfl rfl rfl (Nat.le_of_ble_eq_true rfl) ?_
          apply Exists.intro
          refine ⟨fun w' K hK => ?_, ?_⟩
          (focus
            go_simp
            exact hK)
          refine os_yldg hS0 rfl rfl rfl (Nat.le_of_ble_eq_true rfl) ?_
          apply Exists.intro
          refine ⟨fun w' hS' K hK => ?_, ?_⟩
          (focus
            obtain ⟨hcc, hff⟩ := bcellB (Below.undr hS')
            clear hS'
            go_simp
            exact hK)
          refine os_moveg rfl rfl rfl (Nat.le_of_ble_eq_true rfl) ?_
          apply Exists.intro
          refine ⟨fun w' K hK => ?_, ?_⟩
          (focus
            go_simp
            exact hK)
          refine os_moveg rfl rfl rfl (Nat.le_of_ble_eq_true rfl) ?_
          apply Exists.intro
          refine ⟨fun w' K hK => ?_, ?_⟩
          (focus
            go_simp
            exact hK)
          refine os_moveg rfl rfl rfl (Nat.le_of_ble_eq_true rfl) ?_
          apply Exists.intro
          refine ⟨fun w' K hK => ?_, ?_⟩
          (focus
            go_simp
            exact hK)
          refine os_yldg hS0 rfl rfl rfl (Nat.le_of_ble_eq_true rfl) ?_
          apply Exists.intro
          refine ⟨fun w' hS' K hK => ?_, ?_⟩
          (focus
            obtain ⟨hcc, hff⟩ := bcellB (Below.undr hS')
            clear hS'
            go_simp
            exact hK)
          refine os_moveg rfl rfl rfl (Nat.le_of_ble_eq_true rfl) ?_
          apply Exists.intro
          refine ⟨fun w' K hK => ?_, ?_⟩
          (focus
            go_simp
            exact hK)
          refine os_moveg rfl rfl rfl (Nat.le_of_ble_eq_true rfl) ?_
          apply Exists.intro
          refine ⟨fun w' K hK => ?_, ?_⟩
          (focus
            go_simp
            exact hK)
          refine os_move rfl rfl rfl (Nat.le_of_ble_eq_true rfl) ?_
          apply Exists.intro
          refine ⟨fun w' K hK => ?_, ?_⟩
          (focus
            go_simp
            exact hK)
          refine os_move rfl rfl rfl (Nat.le_of_ble_eq_true rfl) ?_
          apply Exists.intro
          refine ⟨fun w' K hK => ?_, ?_⟩
          (focus
            go_simp
            exact hK)
          refine os_moveg rfl rfl rfl (Nat.le_of_ble_eq_true rfl) ?_
          apply Exists.intro
          refine ⟨fun w' K hK => ?_, ?_⟩
          (focus
            go_simp
            exact hK)
          refine os_yldg hS0 rfl rfl rfl (Nat.le_of_ble_eq_true rfl) ?_
          apply Exists.intro
          refine ⟨fun w' hS' K hK => ?_, ?_⟩
          (focus
            obtain ⟨hcc, hff⟩ := bcellB (Below.undr hS')
            clear hS'
            go_simp
            exact hK)
          refine os_moveg rfl rfl rfl (Nat.le_of_ble_eq_true rfl) ?_
          apply Exists.intro
          refine ⟨fun w' K hK => ?_, ?_⟩
          (focus
            go_simp
            exact hK)
          refine os_move rfl rfl rfl (Nat.le_of_ble_eq_true rfl) ?_
          apply Exists.intro
          refine ⟨fun w' K hK => ?_, ?_⟩
          (focus
            go_simp
            exact hK)
          refine os_move rfl rfl rfl (Nat.le_of_ble_eq_true rfl) ?_
          apply Exists.intro
          refine ⟨fun w' K hK => ?_, ?_⟩
          (focus
            go_simp
            exact hK)
          refine os_moveg rfl rfl rfl (Nat.le_of_ble_eq_true rfl) ?_
          apply Exists.intro
          refine ⟨fun w' K hK => ?_, ?_⟩
          (focus
            go_simp
            exact hK)
          refine os_yldg hS0 rfl rfl rfl (Nat.le_of_ble_eq_true rfl) ?_
          apply Exists.intro
          refine ⟨fun w' hS' K hK => ?_, ?_⟩
          (focus
            obtain ⟨hcc, hff⟩ := bcellB (Below.undr hS')
            clear hS'
            go_simp
            exact hK)
          refine os_moveg rfl rfl rfl (Nat.le_of_ble_eq_true rfl) ?_
          apply Exists.intro
          refine ⟨fun w' K hK => ?_, ?_⟩
          (focus
            go_simp
            exact hK)
          refine os_move rfl rfl rfl (Nat.le_of_ble_eq_true rfl) ?_
          apply Exists.intro
          refine ⟨fun w' K hK => ?_, ?_⟩
          (focus
            go_simp
            exact hK)
          refine os_done ⟨rfl, ?_⟩
          have d1d : w9.drew.cell? ⟨g8, 1, none⟩ = some (.int .i64 (u : Int)) := d1
          clear hS0 d1 l8 l11 lx cx hsum hle hu0 hXp h89 hg811
          have g9d : Hid (w9.drew.heap[g]? = some (.cells (tk (u + 1 - 1)).toArray 27 (0, 0))) := hg9.out
          have e1d : Hid (w9.drew.cell? ⟨g11, 1, none⟩ = some (.int .i64 (V : Int))) := e1
          have hne11 : Hid (g11 ≠ g) := fun e => by
            subst e
            have := hg9.out
            rw [h11.out] at this
            injection this with this
            injection this with _ this _
            exact absurd this (by decide)
          have hr9d : Hid (RingAt w9.drew b m (LL V false)) := hr9.out.bel (Below.dr1 _)
          have hf9d : Hid (Fr (Iv w.heap.size (g + 1)) w w9.drew) := hf19.out.tr (Fr.of_below (Below.dr1 _))
          clear hg9 e1 h11 hr9 hf19
          have hv200 : V ≤ 200 := hX2
          have huV : u + 1 ≤ V + 1 := by have := HV.out; omega
          have hu200 : (u : Int) ≤ 200 := by omega
          go_wp2_with fail
          generalize w9.drew = w10 at g9d e1d hr9d hf9d d1d ⊢
          go_loopw [13] (fun v wi => ∃ N : Nat, u + 1 ≤ N ∧ N ≤ V + 1 ∧ v = .int .i64 (N : Nat) ∧ Hid (wi.heap[g]? = some (.cells (tk (N - 1)).toArray 27 (0, 0)) ∧ Fr (fun j => j = g) w10 wi)) (fun v _ => V + 1 - (intOf v).toNat)
          case atStart => exact ⟨u + 1, Nat.le_refl _, huV, by first | rfl | go_num, Lib.hid ⟨g9d.out, Fr.refl _ _⟩⟩
          case round =>
            clear d1d
            obtain ⟨N, hN1, hN2, rfl, HN⟩ := hrel
            rename World => wi
            have ei : wi.cell? ⟨g11, 1, none⟩ = some (.int .i64 (V : Int)) := cell_fr e1d.out HN.out.2 (fun e => hne11.out e)
            by_cases hNV : N ≤ V
            · have hNI : (N : Int) ≤ (V : Int) := by omega
              have hN0 : (0 : Int) ≤ (N : Int) := by omega
              have hN201 : (N : Int) < 201 := by omega
              have ct : wi.cell? ⟨g, N, none⟩ = some (.bool false) := by
                rw [cell_of_row wi g N _ _ _ HN.out.1, List.getElem?_toArray, tk_get _ _ (by omega)]
                simp; omega
              have ft : wi.frozen? ⟨g, N, none⟩ = false := frozen_of_row wi g N _ _ HN.out.1
              go_wp2_with fail
              have h2 := setCell_block2 wi g N _ _ (.bool true) HN.out.1
              have hf2 : Fr (fun j => j = g) wi (wi.setCell ⟨g, N, none⟩ (.bool true)) := (Fr.refl (fun j => j = g) wi).setCell (p := ⟨g, N, none⟩) (.inl rfl) _
              go_roundw
              case rel =>
                refine ⟨N + 1, by omega, by omega, by go_num, Lib.hid ⟨?_, HN.out.2.tr hf2⟩⟩
                rw [h2]
                have := tk_set (N - 1) (by omega)
                rw [show N - 1 + 1 = N by omega] at this
                rw [show N + 1 - 1 = N by omega, ← this]
                simp
              case measure => simp [intOf]; omega
            · have hNI : decide ((N : Int) ≤ (V : Int)) = false := decide_eq_false (by omega)
              have hNe : N = V + 1 := by omega
              have hI : Hid (OnceI w wi b m g V false) := by
                have ho := hord.out
                have h1 := HN.out.1
                rw [hNe, Nat.add_sub_cancel] at h1
                exact ⟨hr9d.out.fr HN.out.2 (by omega) (by omega), hv200, h1, ho, hf9d.out.trans HN.out.2 (fun i _ e => ⟨by omega, by omega⟩)⟩
              clear hNe
              go_wp2_with fail
              go_roundw
              case rel => exact ⟨k + 1, V, false, by omega, by omega, by go_num, rfl, hI.out⟩
              case measure => simp [intOf]; omega
    · have hex : (decide ((k : Int) < (n : Int)) = false ∧ ¬ k < n) ∨ (k < n ∧ decide ((k : Int) < 300) = false) := by
        by_cases h : k < n
        · right; exact ⟨h, decide_eq_false (by omega)⟩
        · left; exact ⟨decide_eq_false (by omega), h⟩
      clear hgo
      rcases hex with ⟨hex, hexN⟩ | ⟨hexN, hex⟩
      all_goals
        go_wp2_with (go_at_call 11; refine (Hold_at wr b m (LL u sh) HI.out.r ann tT fits_at _ (look_t u sh) ⟨2, 0, false⟩ rfl true rfl).mono ?_; rintro e w5 ⟨rfl, hb5⟩)
        refine (known_any _).mono ?_
        rintro e w6 ⟨rfl, hb6⟩
        go_wp2_with fail
        go_ret
        have hb := Below.tr (hb5.alloc hb5.size (.cells #[.int .i64 2, .int .i64 0, .bool false] 30)) hb6
        exact ⟨rfl, (HI.out.fr.tr (Fr.of_below hb)).to_below (fun i hi e => by have := e.1; omega)⟩
end Go.Proofs.Ytglbhoamknjdeaa
