/- Frames and byte slices with their blocks. -/
import Derived.Test.YtnejcciociinmaaKit2
import Derived.Laws.CopyOwn
namespace Go.Proofs.Ytnejcciociinmaa
open Go.RowKit

/-- w' is w but for the blocks of M, and new ones -/
structure Fr (M : Nat → Prop) (w w' : World) : Prop where
  os : w'.os = w.os
  tape : w'.tape = w.tape
  output : w'.output = w.output
  size : w.heap.size ≤ w'.heap.size
  block : ∀ k, k < w.heap.size → ¬ M k → w'.heap[k]? = w.heap[k]?

abbrev NoB : Nat → Prop := fun _ => False

theorem Fr.refl (M : Nat → Prop) (w : World) : Fr M w w := ⟨rfl, rfl, rfl, Nat.le_refl _, fun _ _ _ => rfl⟩
theorem Fr.trans {M N : Nat → Prop} {a b c : World} (h : Fr M a b) (k : Fr N b c) (hN : ∀ i, i < a.heap.size → N i → M i) : Fr M a c :=
  ⟨k.os.trans h.os, k.tape.trans h.tape, k.output.trans h.output, Nat.le_trans h.size k.size,
   fun i hi hm => (k.block i (Nat.lt_of_lt_of_le hi h.size) (fun e => hm (hN i hi e))).trans (h.block i hi hm)⟩
theorem Fr.mono {M N : Nat → Prop} {a b : World} (h : Fr M a b) (hM : ∀ i, i < a.heap.size → M i → N i) : Fr N a b :=
  ⟨h.os, h.tape, h.output, h.size, fun i hi hn => h.block i hi (fun e => hn (hM i hi e))⟩
theorem Fr.of_below {M : Nat → Prop} {a b : World} (h : Below a.heap.size a b) : Fr M a b := ⟨h.os, h.tape, h.output, h.size, fun i hi _ => h.block i hi⟩
theorem Fr.of_grown {a b : World} {row : Option Nat} (h : a.grownBy b row) : Fr (fun k => some k = row) a b := ⟨h.os, h.tape, h.output, h.size, h.block⟩
theorem Fr.to_below {M : Nat → Prop} {a b : World} (h : Fr M a b) (hM : ∀ i, i < a.heap.size → ¬ M i) : Below a.heap.size a b := ⟨h.os, h.tape, h.output, h.size, fun i hi => h.block i hi (hM i hi)⟩
theorem Fr.drewN {M : Nat → Prop} {a w : World} (h : Fr M a w) (n : Nat) : Fr M a (w.drewN n) := ⟨h.os, h.tape, h.output, h.size, h.block⟩
theorem Fr.drew {M : Nat → Prop} {a w : World} (h : Fr M a w) : Fr M a w.drew := ⟨h.os, h.tape, h.output, h.size, h.block⟩
theorem Fr.alloc {M : Nat → Prop} {a w : World} (h : Fr M a w) (o : Obj) : Fr M a (w.alloc o) :=
  h.trans (N := NoB) (Fr.of_below ((Below.refl _ _).alloc (Nat.le_refl _) o)) (fun _ _ e => e.elim)
theorem Fr.setCell {M : Nat → Prop} {a w : World} (h : Fr M a w) {p : Addr} (hp : M p.block ∨ a.heap.size ≤ p.block) (u : Value) : Fr M a (w.setCell p u) :=
  ⟨h.os, h.tape, h.output, by simpa [World.setCell] using h.size, fun i hi hn => (Below.heap_setCell w p u i (by
    rintro rfl
    rcases hp with hp | hp
    · exact hn hp
    · omega)).trans (h.block i hi hn)⟩
theorem Fr.trans_below {M : Nat → Prop} {a b c : World} (h : Fr M a b) (k : Below b.heap.size b c) : Fr M a c :=
  h.trans (N := NoB) (Fr.of_below k) (fun _ _ e => e.elim)

/-- a slice of bytes that reads as l; its block is one of F -/
structure Sl (w : World) (F : Nat → Prop) (A : Option Addr) (n c : Nat) (l : List UInt8) : Prop where
  len : l.length = n
  cap : n ≤ c
  nil : A = none → c = 0
  foot : ∀ ad, A = some ad → bs l ≠ [] → F ad.block
  rd : Rd w A (bs l)

theorem Sl.fr {w w' : World} {F M : Nat → Prop} {A : Option Addr} {n c : Nat} {l : List UInt8} (h : Sl w F A n c l) (hf : Fr M w w') (hF : ∀ k, F k → k < w.heap.size ∧ ¬ M k) : Sl w' F A n c l :=
  ⟨h.len, h.cap, h.nil, h.foot, h.rd.of_eq fun ad he hne => hf.block _ (hF _ (h.foot ad he hne)).1 (hF _ (h.foot ad he hne)).2⟩
theorem Sl.mono {w : World} {F G : Nat → Prop} {A : Option Addr} {n c : Nat} {l : List UInt8} (h : Sl w F A n c l) (hF : ∀ k, F k → G k) : Sl w G A n c l :=
  ⟨h.len, h.cap, h.nil, fun ad he hne => hF _ (h.foot ad he hne), h.rd⟩
theorem Sl.nil_ (w : World) (F : Nat → Prop) : Sl w F none 0 0 [] := ⟨rfl, Nat.le_refl _, fun _ => rfl, (fun _ h => by cases h), (fun j x hx => by simp [bs] at hx)⟩
theorem Sl.zero {w : World} {F : Nat → Prop} {A : Option Addr} {n c : Nat} {l : List UInt8} (h : Sl w F A n c l) : A = none → n = 0 ∧ c = 0 := fun e => by
  have := h.nil e; have := h.cap; omega
/-- what is owned, as a slice of its own block -/
theorem Sl.of_own {w : World} {base e : Nat} {A : Option Addr} {n c : Nat} {l : List UInt8} (h : w.ownsRow base e 1 (.slice A n c) n (bs l)) :
    Sl w (fun k => base ≤ k ∧ k < w.heap.size ∧ (Value.slice A n c).ownBlock = some k) A n c l := by
  have hl : l.length = n := by have := h.1; rw [bs_length] at this; omega
  refine ⟨hl, ?_, ?_, ?_, Rd.of_own h⟩
  · rcases h.2 with ⟨hv, h0⟩ | ⟨g, cap, cur, hv, _, _, hc, _⟩
    · injection hv with _ _ hc; omega
    · injection hv with _ _ hc'; omega
  · intro hA
    rcases h.2 with ⟨hv, h0⟩ | ⟨g, cap, cur, hv, _⟩
    · injection hv with _ _ hc
    · injection hv with hA'; rw [hA] at hA'; cases hA'
  · intro ad hA _
    subst hA
    have := h.lt ad.block rfl
    exact ⟨this.1, this.2, rfl⟩
theorem Sl.take_ {w : World} {F : Nat → Prop} {A : Option Addr} {n c m : Nat} {l l' : List UInt8} (h : Sl w F A n c (l ++ l')) (hm : l.length = m) : Sl w F A m c l := by
  have := h.len; rw [List.length_append] at this
  exact ⟨hm, by have := h.cap; omega, h.nil, fun ad he hne => h.foot ad he (by rw [bs_append]; simp [hne]), Rd.prefix_ (by rw [← bs_append]; exact h.rd)⟩
theorem addr_add_add (a : Addr) (i j : Nat) : (a.add i).add j = a.add (i + j) := by
  unfold Addr.add
  by_cases hi : i = 0 <;> by_cases hj : j = 0 <;> simp [hi, hj, Nat.add_assoc]
theorem Sl.drop_ {w : World} {F : Nat → Prop} {A A' : Option Addr} {n c m : Nat} {l : List UInt8} (h : Sl w F A n c l) (hm : m ≤ n) (hA : (A' = A ∧ c = m) ∨ A' = A.map (·.add m)) : Sl w F A' (n - m) (c - m) (l.drop m) := by
  have h1 := h.len
  have h2 := h.cap
  rcases hA with ⟨rfl, hc⟩ | rfl
  · have : l.drop m = [] := List.drop_of_length_le (by omega)
    rw [this]
    exact ⟨by simp; omega, by omega, fun _ => by omega, fun _ _ hne => absurd rfl hne, fun j x hx => by simp [bs] at hx⟩
  · refine ⟨by rw [List.length_drop]; omega, by omega, fun e => ?_, fun ad he hne => ?_, fun j x hx => ?_⟩
    · rcases A with _ | ad
      · have := h.nil rfl; omega
      · cases e
    · rcases A with _ | ad'
      · cases he
      · injection he with he; subst he
        rw [addr_add_block]; exact h.foot ad' rfl (fun e => hne (by simp only [bs, List.map_eq_nil_iff] at e; subst e; simp [bs]))
    · have hx' : (bs l)[m + j]? = some x := by
        rw [← hx]; simp [bs, List.getElem?_drop]
      obtain ⟨ad, rfl, hc⟩ := h.rd (m + j) x hx'
      exact ⟨_, rfl, by rw [addr_add_add]; exact hc⟩
theorem Sl.lt {w : World} {F : Nat → Prop} {A : Option Addr} {n c : Nat} {l : List UInt8} (h : Sl w F A n c l) (hF : ∀ k, F k → k < w.heap.size) : ∀ ad, A = some ad → bs l ≠ [] → ad.block < w.heap.size :=
  fun ad he hne => hF _ (h.foot ad he hne)

/-- all blocks that there are -/
abbrev Old (w : World) : Nat → Prop := fun k => k < w.heap.size

/-! The kit's contracts again, over Sl. -/
theorem SameBytes_sl {F G : Nat → Prop} {A A' : Option Addr} {n n' c c' : Nat} {l l' : List UInt8} {w : World} (h : Sl w F A n c l) (h' : Sl w G A' n' c' l') (hl : n ≤ 9223372036854775807) (hl' : n' ≤ 9223372036854775807) :
    Calls Try.prog 15 #[.slice A n c, .slice A' n' c'] w fun e w' => e = .returned (.bool (l == l')) ∧ ∃ k, w' = w.drewN k :=
  SameBytes_any A A' n n' c c' l l' w h.len h'.len h.rd h'.rd (by have := h.len; omega) (by have := h'.len; omega)
theorem CopyBytes_sl {F : Nat → Prop} {A : Option Addr} {n c : Nat} {l : List UInt8} {w : World} (h : Sl w F A n c l) (hF : ∀ k, F k → k < w.heap.size) (hl : n ≤ 140737488355328) :
    Calls Try.prog 21 #[.slice A n c] w fun e w' => ∃ A' c', e = .returned (.slice A' n c') ∧ w'.ownsRow w.heap.size 5 1 (.slice A' n c') n (bs l) ∧ Below w.heap.size w w' :=
  CopyBytes_any A n c l w h.len h.rd (h.lt hF) (by have := h.len; omega)
theorem Clone_sl {F : Nat → Prop} {A : Option Addr} {n c : Nat} {l : List UInt8} {w : World} (h : Sl w F A n c l) (hF : ∀ k, F k → k < w.heap.size) (hl : n ≤ 140737488355328) :
    Calls Try.prog 25 #[.slice A n c] w fun e w' => ∃ A' c', e = .returned (.slice A' n c') ∧ w'.ownsRow w.heap.size 5 1 (.slice A' n c') n (bs l) ∧ Below w.heap.size w w' :=
  Clone_any A n c l w h.len h.rd (h.lt hF) (by have := h.len; omega) h.zero
theorem LentBytes_sl {F : Nat → Prop} {A : Option Addr} {n c : Nat} {l : List UInt8} {w : World} (h : Sl w F A n c l) (hF : ∀ k, F k → k < w.heap.size) (hl : n ≤ 140737488355000) :
    Calls Try.prog 7 #[.slice A n c] w fun e w' => ∃ g c', e = .returned (.slice (some ⟨g, 0, none⟩) (n + 5) c') ∧ w'.ownsRow w.heap.size 5 1 (.slice (some ⟨g, 0, none⟩) (n + 5) c') (n + 5) (bs (l ++ marks)) ∧ Below w.heap.size w w' :=
  LentBytes_any A n c l w h.len h.rd (h.lt hF) (by have := h.len; omega)
theorem KeptBytes_sl {F G : Nat → Prop} {g m cc n c : Nat} {A : Option Addr} {l : List UInt8} {w : World} (ha : Sl w G (some ⟨g, 0, none⟩) m cc (l ++ marks)) (hG : ∀ k, G k → k < w.heap.size) (h : Sl w F A n c l) (hF : ∀ k, F k → k < w.heap.size) (hl : n ≤ 140737488355000) :
    Calls Try.prog 10 #[.slice (some ⟨g, 0, none⟩) m cc, .slice A n c] w fun e w' => e = .returned (.bool true) ∧ Below w.heap.size w w' :=
  KeptBytes_any g n m cc A c l w h.len (by have := ha.len; have := h.len; simp [marks] at *; omega) ha.rd (hG _ (ha.foot _ rfl (by simp [bs, marks]))) h.rd (h.lt hF) (by have := h.len; omega) (by have := ha.cap; have := ha.len; simp [marks] at *; omega)

theorem foldl_push (l : List UInt8) : ∀ s : ByteArray, (l.map (fun u : UInt8 => (u.toNat : Int))).foldl (fun r n => r.push (UInt8.ofNat n.toNat)) s = ⟨s.data ++ l.toArray⟩ := by
  induction l with
  | nil => intro s; simp
  | cons u l ih =>
    intro s
    simp only [List.map_cons, List.foldl_cons]
    rw [ih]
    congr 1
    apply Array.ext'
    simp [ByteArray.push]
theorem run_string_of {P : Program} (w : World) (F : Nat → Prop) (src dst e : TypeId) (A : Option Addr) (n c : Nat) (l : List UInt8) (h : Sl w F A n c l)
    (hs : P.underlying src = some (.slice e)) (he : P.underlying e = some (.int .u8)) (hd : P.underlying dst = some .string) :
    (convert src dst (.slice A n c)).run P w = .ok (.string ⟨l.toArray⟩) w := by
  rw [run_convert_bytes_string w src dst e A n c hs he hd]
  rcases A with _ | ad
  · have h0 := h.zero rfl
    have hl : l = [] := List.eq_nil_of_length_eq_zero (by have := h.len; omega)
    subst hl
    simp [Conv.bytesToString]; rfl
  · have hlc : (loadCells ad n).run P w = .ok (bs l).toArray w := by
      have := run_loadCells_list (P := P) w ad (bs l) (fun j v hv => by obtain ⟨ad', e1, hc⟩ := h.rd j v hv; injection e1 with e1; subst e1; exact hc)
      rw [bs_length, h.len] at this
      exact this
    have hb : bs l = (l.map (fun u : UInt8 => (u.toNat : Int))).map (Value.int .u8) := by simp [bs, bv, Function.comp_def]
    rw [hb] at hlc
    rw [run_bytesToString w ad n c _ hlc, foldl_push]
    simp
/-- copy of bytes into bytes of the call's own -/
theorem run_copy_bytes {w : World} (ty : TypeId) (base g off dl dc N C : Nat) (L : List UInt8) (hown : w.ownsRow base 5 1 (.slice (some ⟨g, 0, none⟩) N C) N (bs L))
    (hfit : off + dl ≤ N) {F : Nat → Prop} {A : Option Addr} {sn sc : Nat} {l : List UInt8} (hs : Sl w F A sn sc l) :
    ∃ w', (Builtin.copy_ #[22, 22] ty #[.slice (some ⟨g, off, none⟩) dl dc, .slice A sn sc]).run Try.prog w = .ok (.int .i64 (min sn dl : Nat)) w' ∧
      w'.ownsRow base 5 1 (.slice (some ⟨g, 0, none⟩) N C) N (bs (L.take off ++ (l.take dl ++ L.drop (off + min sn dl)))) ∧ w.grownBy w' (some g) := by
  have hL : L.length = N := by have := hown.1; rw [bs_length] at this; omega
  obtain ⟨i0, hi, hz0, hz1, hz2⟩ := info_parts Try.infoB
  have hsz : (Try.prog.info? 5).map (·.size) = some 1 := by rw [hi]; simp [hz1]
  have hlen := hs.len
  by_cases h0 : min sn dl = 0
  · refine ⟨w, ?_, ?_, World.grownBy.refl _ _⟩
    · have := run_copy_none (P := Try.prog) w 22 22 ty 5 (some ⟨g, off, none⟩) A dl dc sn sc Try.underlying22 hsz (by simpa [Nat.min_def] using h0)
      rw [this, h0]; rfl
    · have e : l.take dl = [] := by
        rcases Nat.eq_zero_or_pos dl with h | h
        · simp [h]
        · have : sn = 0 := by omega
          have : l = [] := List.eq_nil_of_length_eq_zero (by omega)
          simp [this]
      rw [e, h0]; simpa using hown
  · have hA : A ≠ none := fun e => by have := hs.zero e; omega
    obtain ⟨ad, rfl⟩ := Option.ne_none_iff_exists'.1 hA
    rcases hown.2 with ⟨hv, _⟩ | ⟨g', cap, cur, hv, hb, hg, hnc, hcm, hcs, htake⟩
    · cases hv
    · injection hv with e1 _ e2
      injection e1 with e1
      injection e1 with e1
      subst e1 e2
      have htl : (l.take dl).length = min sn dl := by rw [List.length_take]; omega
      have hcells : ∀ j v, (bs (l.take dl))[j]? = some v → w.cell? (ad.add j) = some v := by
        intro j v hv
        have : (bs l)[j]? = some v := by
          simp only [bs, List.map_take] at hv ⊢
          rw [List.getElem?_take] at hv
          split at hv
          · exact hv
          · cases hv
        obtain ⟨ad', e3, hc⟩ := hs.rd j v this
        injection e3 with e3; subst e3; exact hc
      have hrun := run_copy_row (P := Try.prog) w 22 22 ty 5 g off dl dc ad sn sc cur 5 (bs (l.take dl)) Try.underlying22 hsz hg
        (by rw [bs_length, htl]) hcells (by rw [bs_length, htl, hcs]; omega) (bs_oneCell _)
      rw [bs_length, htl] at hrun
      refine ⟨_, hrun, ⟨?_, .inr ⟨g, C, _, rfl, hb, setRow_heap w g cur _ _ _ hg, hnc, hcm, ?_, ?_⟩⟩, ⟨rfl, rfl, rfl, by simp, fun k _ hk => setRow_other w g k _ (fun e => hk (by rw [e]))⟩⟩
      · rw [bs_length]; simp only [List.length_append, List.length_take, List.length_drop]; omega
      · simp only [List.size_toArray, List.length_append, List.length_take, List.length_drop, Array.length_toList, bs_length]; omega
      · have hcl : cur.toList.length = C := by rw [Array.length_toList, hcs]; omega
        have e5 : cur.toList.take off = bs (L.take off) := by
          have : (cur.toList.take (N * 1)).take off = (bs L).take off := by rw [htake]
          rw [List.take_take, show min off (N * 1) = off by omega] at this
          rw [this]; simp [bs]
        rw [e5]
        have e6 : (cur.toList.drop (off + min sn dl)).take (N - (off + min sn dl)) = bs (L.drop (off + min sn dl)) := by
          have : (cur.toList.take (N * 1)).drop (off + min sn dl) = (bs L).drop (off + min sn dl) := by rw [htake]
          rw [List.drop_take, show N * 1 - (off + min sn dl) = N - (off + min sn dl) by omega] at this
          rw [this]; simp [bs]
        have l1 : (List.take off L).length = off := by rw [List.length_take]; omega
        rw [List.take_append, List.take_append, List.length_append, bs_length, bs_length, htl, l1]
        rw [List.take_of_length_le (l := bs (List.take off L)) (by rw [bs_length, l1]; omega), List.take_of_length_le (l := bs (List.take dl l)) (by rw [bs_length, htl]; omega)]
        rw [show N * 1 - (off + min sn dl) = N - (off + min sn dl) by omega, e6, bs_append, bs_append, List.append_assoc]
theorem copy_bytes {w : World} {ops : Array Oper} {rest : List Oper} {o : Oper} {a : Act} {Q : Exit → Act → World → Prop} (hgd : o.guard = none) (d s : Operand)
    (ho : o.op = .call { callee := .builtin .copy, args := #[d, s], argTypes := #[22, 22] })
    (base g off dl dc N C : Nat) (L : List UInt8) (hd : a.eval d = .slice (some ⟨g, off, none⟩) dl dc) (hown : w.ownsRow base 5 1 (.slice (some ⟨g, 0, none⟩) N C) N (bs L))
    (hfit : off + dl ≤ N) {F : Nat → Prop} {A : Option Addr} {sn sc : Nat} {l : List UInt8} (hsv : a.eval s = .slice A sn sc) (hs : Sl w F A sn sc l)
    (h : ∀ w', w'.ownsRow base 5 1 (.slice (some ⟨g, 0, none⟩) N C) N (bs (L.take off ++ (l.take dl ++ L.drop (off + min sn dl)))) → w.grownBy w' (some g) →
      wpList Try.prog ops Q rest (a.put o.dst (.int .i64 (min sn dl : Nat))) w') : wpList Try.prog ops Q (o :: rest) a w := by
  refine wpList_plain hgd fun K hK => ?_
  obtain ⟨w', hrun, h2, h3⟩ := run_copy_bytes o.type base g off dl dc N C L hown hfit hs
  unfold Oper.wp
  simp [execOp, ho, resolve, invoke, builtin, hd, hsv, hrun, Result.andThen]
  exact hK _ _ (h w' h2 h3)

theorem bs_replicate (n : Nat) : bs (List.replicate n 0) = List.replicate n (.int .u8 0) := by simp [bs, bv]
/-- make of so many bytes -/
theorem make_bytes {w : World} {ops : Array Oper} {rest : List Oper} {o : Oper} {a : Act} {Q : Exit → Act → World → Prop} (hgd : o.guard = none) (l c : Operand) (hop : o.op = .makeSlice 22 l c)
    (base : Nat) (L C : Int) (n : Nat) (hl : a.eval l = .int .i64 L) (hc : a.eval c = .int .i64 C) (hL : L = (n : Int)) (hC : C = (n : Int)) (hn : n ≤ 140737488355328) (hb : base ≤ w.heap.size)
    (hK : ∀ g w', Hid (g = w.heap.size) → base ≤ g → w'.ownsRow base 5 1 (.slice (some ⟨g, 0, none⟩) n n) n (bs (List.replicate n 0)) → w.grownBy w' none → wpList Try.prog ops Q rest (a.put o.dst (.slice (some ⟨g, 0, none⟩) n n)) w') :
    wpList Try.prog ops Q (o :: rest) a w := by
  obtain ⟨i0, hi, hz0, hz1, hz2⟩ := info_parts Try.infoB
  refine wpList_make_full w hgd l c 22 hop base 5 i0 (.int .u8 0) 1 Try.underlying22 hi hz0 hz1 .i64 .i64 L C n hl hc hL hC (by rw [hz2]; omega) (by simp only [maxLen]; omega) hb ?_
  intro w' h1 h2
  refine hK _ w' (Lib.hid rfl) hb ?_ h2
  rw [bs_replicate]
  have e : (madeCells (Value.int .u8 0).cells (n * 1)).toList = List.replicate n (.int .u8 0) := by
    rw [Nat.mul_one]; exact toList_madeCells_one _ _
  rw [e] at h1
  exact h1
theorem Same_at {F G : Nat → Prop} {A A' : Option Addr} {n n' c c' : Nat} {l l' : List UInt8} {w : World} (h : Sl w F A n c l) (h' : Sl w G A' n' c' l') (hl : n ≤ 9223372036854775807) (hl' : n' ≤ 9223372036854775807) (r : Bool) (hr : (l == l') = r) :
    Calls Try.prog 15 #[.slice A n c, .slice A' n' c'] w fun e w' => e = .returned (.bool r) ∧ ∃ k, w' = w.drewN k := by
  subst hr; exact SameBytes_sl h h' hl hl'
theorem own_mono {w : World} {base base' e size n : Nat} {v : Value} {xs : List Value} (h : w.ownsRow base e size v n xs) (hb : base' ≤ base) : w.ownsRow base' e size v n xs := by
  refine ⟨h.1, ?_⟩
  rcases h.2 with hn | ⟨g, cap, cur, hv, hbg, rest⟩
  · exact .inl hn
  · exact .inr ⟨g, cap, cur, hv, by omega, rest⟩
end Go.Proofs.Ytnejcciociinmaa
