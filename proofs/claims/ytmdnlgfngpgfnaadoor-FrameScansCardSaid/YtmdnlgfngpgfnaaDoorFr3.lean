/- Put. -/
import Derived.Test.YtmdnlgfngpgfnaaDoorFr2
namespace Go.Proofs.YtmdnlgfngpgfnaaDoor
open Go.RowKit

theorem Below.fr_ {w a b : World} {M : Nat → Prop} {B : Nat} (h : Below B w a) (hf : Fr M a b) (hB : B ≤ a.heap.size) (hM : ∀ j, M j → B ≤ j) : Below B w b :=
  ⟨hf.os.trans h.os, hf.tape.trans h.tape, hf.output.trans h.output, Nat.le_trans h.size hf.size, fun i hi =>
    (hf.block i (by omega) (fun e => by have := hM i e; omega)).trans (h.block i hi)⟩

theorem four_at {w : World} {base : Nat} {A : Option Addr} {m c : Nat} {l : List UInt8} (hown : w.ownsRow base 5 1 (.slice A m c) m (bs l)) (v : Int) (n : BitVec 32) (hv : v = wv n) (hm : m ≤ 140737488355000) (hbase : base ≤ w.heap.size) :
    Calls Tryd.prog 30 #[.slice A m c, .int .u32 v] w fun e w' => ∃ A' c', e = .returned (.slice A' (m + 4) c') ∧ w'.ownsRow base 5 1 (.slice A' (m + 4) c') (m + 4) (bs (l ++ be4 n)) ∧
      Fr (fun j => (Value.slice A m c).ownBlock = some j) w w' ∧ ∀ j, (Value.slice A' (m + 4) c').ownBlock = some j → (Value.slice A m c).ownBlock = some j ∨ w.heap.size ≤ j := by
  subst hv; exact four_any hown n hm hbase
theorem Sum_at {F : Nat → Prop} {A : Option Addr} {n c : Nat} {l : List UInt8} {w : World} (hS : Steps w) (h : Sl w F A n c l) (hl : n ≤ 9223372036854775806) (v : BitVec 32) (hv : crc l = v) :
    Calls Tryd.prog 16 #[.slice A n c] w fun e w' => e = .returned (.int .u32 (wv v)) ∧ w = w' := by
  subst hv; exact Sum_any hS h hl
theorem make_room {w : World} {ops : Array Oper} {rest : List Oper} {o : Oper} {a : Act} {Q : Exit → Act → World → Prop} (hgd : o.guard = none) (l c : Operand) (hop : o.op = .makeSlice 22 l c)
    (base : Nat) (C : Int) (n : Nat) (hl : a.eval l = .int .i64 0) (hc : a.eval c = .int .i64 C) (hC : C = (n : Int)) (hn : n ≤ 140737488355328) (hb : base ≤ w.heap.size)
    (hK : ∀ w', w'.ownsRow base 5 1 (.slice (some ⟨w.heap.size, 0, none⟩) 0 n) 0 (bs []) → w.grownBy w' none → wpList Tryd.prog ops Q rest (a.put o.dst (.slice (some ⟨w.heap.size, 0, none⟩) 0 n)) w') :
    wpList Tryd.prog ops Q (o :: rest) a w := by
  obtain ⟨i0, hi, hz0, hz1, hz2⟩ := info_parts Tryd.infoB
  exact wpList_make_own w hgd l c 22 hop base 5 i0 (.int .u8 0) 1 Tryd.underlying22 hi hz0 hz1 .i64 .i64 C n hl hc hC (by rw [hz2]; omega) (by simp only [maxLen]; omega) hb hK

theorem rd_one (w : World) {k : Nat} (h : k ≤ 255) : Rd (w.alloc (.cells #[.int .u8 (k : Int)] 5)) (some ⟨w.heap.size, 0, none⟩) (bs [UInt8.ofNat k]) := by
  have e : bs [UInt8.ofNat k] = [.int .u8 (k : Int)] := by
    simp only [bs, bv, List.map_cons, List.map_nil]
    rw [UInt8.toNat_ofNat', Nat.mod_eq_of_lt (by simp; omega)]
  rw [e]
  exact Rd.of_block (heap_alloc_new w (.cells #[.int .u8 (k : Int)] 5))
/-- what lies ahead of a frame's sum -/
def headB (k : UInt8) (body : List UInt8) : List UInt8 := k :: (be4 (BitVec.ofNat 32 body.length) ++ body)
def frameB (k : UInt8) (body : List UInt8) : List UInt8 := headB k body ++ be4 (crc (headB k body))
def putE (kind : Int) (n : Nat) : Int := if kind < 1 ∨ 255 < kind then 2 else if 2039 < n then 5 else 0
def putB (kind : Int) (body : List UInt8) : List UInt8 := if putE kind body.length = 0 then frameB (UInt8.ofNat kind.toNat) body else []

set_option maxHeartbeats 1000000 in
theorem Put_any {w : World} (hS : Steps w) (kind : Int) {F : Nat → Prop} {A : Option Addr} {n c : Nat} {body : List UInt8} (h : Sl w F A n c body) (hF : ∀ k, F k → k < w.heap.size) (hl : n ≤ 9223372036854775000) :
    Calls Tryd.prog 13 #[.int .i64 kind, .slice A n c] w fun e w' => ∃ A' n' c', e = .returned (.tuple #[.slice A' n' c', .int .i64 (putE kind n)]) ∧ w'.ownsRow w.heap.size 5 1 (.slice A' n' c') n' (bs (putB kind body)) ∧ Below w.heap.size w w' := by
  have hlen := h.len
  have H := Lib.hid h; have HF := Lib.hid hF; have HS := Lib.hid hS
  clear h hF hS
  by_cases hk : kind < 1 ∨ 255 < kind
  · have he : putE kind n = 2 := by unfold putE; rw [if_pos hk]
    have hB : putB kind body = [] := by unfold putB; rw [hlen, he]; rfl
    have He := Lib.hid he; have HB := Lib.hid hB
    clear he hB
    rcases hk with hk | hk
    all_goals
      go_enter Tryd.func13, Tryd.ntmps13
      go_wp2
      go_ret2
      exact ⟨none, 0, 0, by rw [He.out]; rfl, by rw [HB.out]; exact World.ownsRow_nil _ _ _ _, Below.refl _ _⟩
  · obtain ⟨kn, rfl⟩ : ∃ kn : Nat, kind = (kn : Int) := ⟨kind.toNat, by omega⟩
    have hk1 : 1 ≤ kn ∧ kn ≤ 255 := by omega
    have hkI : ¬ (kn : Int) < 1 := by omega
    have hkI2 : ¬ (255 : Int) < (kn : Int) := by omega
    by_cases hlong : 2039 < n
    · have he : putE kn n = 5 := by unfold putE; rw [if_neg hk, if_pos hlong]
      have hB : putB kn body = [] := by unfold putB; rw [hlen, he]; rfl
      have He := Lib.hid he; have HB := Lib.hid hB
      have hl' : (2039 : Int) < (n : Int) := by omega
      clear he hB hk
      go_enter Tryd.func13, Tryd.ntmps13
      go_wp2
      go_ret2
      exact ⟨none, 0, 0, by rw [He.out]; rfl, by rw [HB.out]; exact World.ownsRow_nil _ _ _ _, Below.refl _ _⟩
    · have he : putE kn n = 0 := by unfold putE; rw [if_neg hk, if_neg hlong]
      have hB : putB kn body = frameB (UInt8.ofNat kn) body := by unfold putB; rw [hlen, he]; rfl
      have He := Lib.hid he; have HB := Lib.hid hB; have Hlen := Lib.hid hlen
      have hl' : ¬ (2039 : Int) < (n : Int) := by omega
      clear he hB hk hlen
      go_enter Tryd.func13, Tryd.ntmps13
      have hlen : body.length = n := Hlen.out
      have hv : ∀ x : Int, x = (n : Int) → x = wv (BitVec.ofNat 32 body.length) := fun x hx => by
        rw [hx, hlen]; simp only [wv, BitVec.toNat_ofNat]; omega
      have Hv := Lib.hid hv
      clear hv hlen
      go_wp2_with (first
        | ((with_reducible refine make_room rfl _ (.tmp 21) rfl w.heap.size _ (5 + n + 4) rfl rfl (by omega) (by omega) (by omega) ?_); intro w1 hown1 hg1
           have hb1 : Below w.heap.size w w1 := (Below.refl _ _).grown hg1 (Nat.le_refl _) (fun _ e => by cases e)
           have hz1 := hb1.size)
        | (at_builtin
           (with_reducible refine append_bytes rfl (.tmp 23) (.tmp 26) rfl w.heap.size (some ⟨w.heap.size, 0, none⟩) 0 (5 + n + 4) [] rfl (hown1.alloc _) (some ⟨w1.heap.size, 0, none⟩) 1 1 [UInt8.ofNat kn] rfl rfl (rd_one w1 (by omega)) (by omega) (by simp; omega) ?_)
           intro A2 c2 w2 hown2 hg2 hat2
           have hb2 : Below w.heap.size w w2 := (hb1.alloc hz1 _).grown hg2 (by simp; omega) (fun j hj => (hown1.lt j hj).1)
           have hz2 := hb2.size
           have hown2' : w2.ownsRow w.heap.size 5 1 (.slice A2 1 c2) 1 (bs [UInt8.ofNat kn]) := hown2)
        | (go_at_call 30
           (with_reducible refine (four_at hown2' _ (BitVec.ofNat 32 body.length) (Hv.out _ (by omega)) (by omega) hz2).mono ?_)
           rintro e w3 ⟨A3, c3, rfl, hown3, hfr3, hat3⟩
           have hb3 : Below w.heap.size w w3 := Below.fr_ hb2 hfr3 hz2 (fun j hj => (hown2'.lt j hj).1)
           have hz3 := hb3.size
           have hbody3 := H.out.fr (Fr.of_below (M := NoB) hb3) (fun k hk => ⟨HF.out k hk, id⟩)
           have hown3' : w3.ownsRow w.heap.size 5 1 (.slice A3 5 c3) 5 (bs ([UInt8.ofNat kn] ++ be4 (BitVec.ofNat 32 body.length))) := hown3)
        | (at_builtin
           (with_reducible refine append_bytes rfl (.tmp 31) (.tmp 32) rfl w.heap.size A3 5 c3 _ rfl hown3' A n c body rfl Hlen.out hbody3.rd (by omega) hz3 ?_)
           intro A4 c4 w4 hown4 hg4 hat4
           have hb4 : Below w.heap.size w w4 := hb3.grown hg4 hz3 (fun j hj => (hown3'.lt j hj).1)
           have hz4 := hb4.size
           have hS4 := HS.out.below hb4 HS.out.pos
           have hown4' : w4.ownsRow w.heap.size 5 1 (.slice A4 (5 + n) c4) (5 + n) (bs (headB (UInt8.ofNat kn) body)) := hown4)
        | (go_at_call 16
           (with_reducible refine (Sum_any hS4 (Sl.of_own hown4') (by omega)).mono ?_)
           rintro e w' ⟨rfl, rfl⟩)
        | (go_at_call 30
           (with_reducible refine (four_at hown4' _ (crc (headB (UInt8.ofNat kn) body)) rfl (by omega) hz4).mono ?_)
           rintro e w5 ⟨A5, c5, rfl, hown5, hfr5, hat5⟩
           have hb5 : Below w.heap.size w w5 := Below.fr_ hb4 hfr5 hz4 (fun j hj => (hown4'.lt j hj).1)))
      go_ret2
      exact ⟨A5, 5 + n + 4, c5, by rw [He.out]; rfl, by rw [HB.out]; exact hown5, hb5⟩
end Go.Proofs.YtmdnlgfngpgfnaaDoor
