/- SameNested; what was sealed depends on lengths alone. -/
import Derived.Test.YtnejcciociinmaaBox7
namespace Go.Proofs.Ytnejcciociinmaa
open Go.RowKit

theorem Sl.drewN {w : World} {F : Nat → Prop} {A : Option Addr} {n c : Nat} {l : List UInt8} (h : Sl w F A n c l) (m : Nat) : Sl (w.drewN m) F A n c l := ⟨h.len, h.cap, h.nil, h.foot, h.rd⟩

/-- where numbers were drawn before -/
theorem SameBytes_q {F G : Nat → Prop} {A A' : Option Addr} {n n' c c' : Nat} {l l' : List UInt8} {w : World} (h : Sl w F A n c l) (h' : Sl w G A' n' c' l') (hl : n ≤ 9223372036854775807) (hl' : n' ≤ 9223372036854775807) (m x : Nat) :
    Calls Try.prog 15 #[.slice A n c, .slice A' n' c'] (w.drewN (m + x)) fun e w' => e = .returned (.bool (l == l')) ∧ ∃ k, w' = w.drewN (m + k) :=
  (SameBytes_sl (h.drewN _) (h'.drewN _) hl hl').mono fun _ _ ⟨he, k, hk⟩ => ⟨he, x + k, by rw [hk, World.drewN_drewN, Nat.add_assoc]⟩
theorem nested_take {ls ls' : List (List UInt8)} {k : Nat} (h : k < ls.length) (h' : k < ls'.length) (ht : ls.take k = ls'.take k) (he : ls[k] = ls'[k]) : ls.take (k + 1) = ls'.take (k + 1) := by
  rw [List.take_succ_eq_append_getElem h, List.take_succ_eq_append_getElem h', ht, he]

set_option maxHeartbeats 1000000 in
theorem SameNested_any {A A' : Option Addr} {n n' c c' : Nat} {vs vs' : List Value} {D D' : Nat → Prop} {ls ls' : List (List UInt8)} {w : World} (r : Rd w A vs) (r' : Rd w A' vs') (h : VsAt w D ls vs) (h' : VsAt w D' ls' vs') (hn : ls.length = n) (hn' : ls'.length = n')
    (hb : ∀ l ∈ ls, l.length ≤ 9223372036854775807) (hb' : ∀ l ∈ ls', l.length ≤ 9223372036854775807) (hm : n ≤ 9223372036854775807) :
    Calls Try.prog 23 #[.slice A n c, .slice A' n' c'] w fun e w' => e = .returned (.bool (ls == ls')) ∧ ∃ k, w' = w.drewN k := by
  subst hn hn'
  have R := Lib.hid r; have R' := Lib.hid r'; have H := Lib.hid h; have H' := Lib.hid h'; have HB := Lib.hid hb; have HB' := Lib.hid hb'
  clear r r' h h' hb hb'
  by_cases hne : ls.length = ls'.length
  · have Hne := Lib.hid hne
    go_enter Try.func23, Try.ntmps23
    have hne1 : ((ls.length : Int) != (ls'.length : Int)) = false := by simp [hne]
    clear hne
    go_wp2
    have Hne1 := Lib.hid hne1; clear hne1
    go_loopw [5] (fun i w' => ∃ k m : Nat, k ≤ ls.length ∧ i = .int .i64 k ∧ Hid (ls.take k = ls'.take k) ∧ w' = w.drewN m) (fun i _ => ls.length - (intOf i).toNat)
    case atStart => exact ⟨0, 0, Nat.zero_le _, rfl, rfl, rfl⟩
    case round =>
      obtain ⟨k, m, hk, rfl, Ht, rfl⟩ := hrel
      by_cases hlt : k < ls.length
      · have hlt' : k < ls'.length := by have := Hne.out; omega
        obtain ⟨_, hv, A1, n1, c1, rfl, s1⟩ := H.out.at_ _ _ k hlt
        obtain ⟨_, hv', A2, n2, c2, rfl, s2⟩ := H'.out.at_ _ _ k hlt'
        obtain ⟨ad, rfl, hc⟩ := R.out k _ hv
        obtain ⟨ad', rfl, hc'⟩ := R'.out k _ hv'
        have l1 := Lib.hid (show n1 ≤ 9223372036854775807 by have := s1.len; have := HB.out _ (List.getElem_mem hlt); omega)
        have l2 := Lib.hid (show n2 ≤ 9223372036854775807 by have := s2.len; have := HB'.out _ (List.getElem_mem hlt'); omega)
        have S1 := Lib.hid s1; have S2 := Lib.hid s2
        clear s1 s2 hv hv'
        have hlI : (k : Int) < ls.length := by omega
        have hlI' : (k : Int) < ls'.length := by omega
        have hkI : (0 : Int) ≤ (k : Int) := by omega
        by_cases he : ls[k] = ls'[k]
        · have Hts := Lib.hid (nested_take hlt hlt' Ht.out he)
          have Heq := Lib.hid (show (ls[k] == ls'[k]) = true by simpa using he)
          clear he
          go_wp2
          go_quiet (first | (go_at_call 15; exact SameBytes_q S1.out S2.out l1.out l2.out _ _))
          rw [Heq.out]
          go_wp2
          go_roundw
          case rel => exact ⟨k + 1, m + nq, by omega, by go_num, Hts, rfl⟩
          case measure => simp [intOf]; omega
        · have Heq := Lib.hid (show (ls[k] == ls'[k]) = false by simpa using he)
          have Hnot : Hid ((ls == ls') = false) := by
            show (ls == ls') = false
            simp only [beq_eq_false_iff_ne, ne_eq]; rintro rfl; exact he rfl
          clear he
          go_wp2
          go_quiet (first | (go_at_call 15; exact SameBytes_q S1.out S2.out l1.out l2.out _ _))
          rw [Heq.out]
          go_wp2
          go_ret
          exact ⟨ret_bool Hnot.out.symm, m + nq, drewN_add _ _ _⟩
      · have hkl : k = ls.length := by omega
        have Hyes : Hid ((ls == ls') = true) := by
          show (ls == ls') = true
          have h1 := Ht.out
          have := Hne.out
          rw [List.take_of_length_le (by omega), List.take_of_length_le (by omega)] at h1
          simp [h1]
        clear hkl
        go_wp2
        go_ret
        exact ⟨ret_bool Hyes.out.symm, m, rfl⟩
  · have Hnot : Hid ((ls == ls') = false) := by
      show (ls == ls') = false
      simp only [beq_eq_false_iff_ne, ne_eq]; rintro rfl; exact hne rfl
    have hne1 : ((ls.length : Int) != (ls'.length : Int)) = true := by simp; omega
    go_enter Try.func23, Try.ntmps23
    go_wp2
    go_ret
    exact ⟨ret_bool Hnot.out.symm, 0, rfl⟩

/-- lengths alone -/
theorem St.blind : ∀ (l l' : List Th) (s s' : St), l.map (·.plain.length) = l'.map (·.plain.length) → s.src = s'.src → s.rows.length = s'.rows.length → s.outs = s'.outs → (s.all l).outs = (s'.all l').outs
  | [], [], _, _, _, _, _, h => h
  | [], _ :: _, _, _, h, _, _, _ => by simp at h
  | _ :: _, [], _, _, h, _, _, _ => by simp at h
  | t :: l, t' :: l', s, s', h, h1, h2, h3 => by
    simp only [List.map_cons, List.cons.injEq] at h
    show ((s.step t).all l).outs = ((s'.step t').all l').outs
    refine St.blind l l' _ _ h.2 ?_ ?_ ?_ <;> simp [St.step, h.1, h1, h2, h3]
theorem sealOf_len (n m : Nat) (src : List UInt8) : (sealOf n m src).length = 16 + m := by
  simp [sealOf, le8, drawn]; omega
theorem St.outs_le (l : List Th) (hl : ∀ t ∈ l, t.plain.length ≤ 1024) : ∀ {s : St}, (∀ o ∈ s.outs, o.length ≤ 1040) → ∀ o ∈ (s.all l).outs, o.length ≤ 1040 := by
  induction l with
  | nil => intro s h o ho; exact h o ho
  | cons t l ih =>
    intro s h o ho
    refine ih (fun t ht => hl t (List.mem_cons_of_mem _ ht)) (s := s.step t) ?_ o ho
    intro u hu
    simp only [St.step, List.mem_append, List.mem_singleton] at hu
    rcases hu with hu | rfl
    · exact h u hu
    · rw [sealOf_len]; have := hl t List.mem_cons_self; omega
end Go.Proofs.Ytnejcciociinmaa
