/- The reference's box: Seal. -/
import Derived.Test.YtnejcciociinmaaRb1
import Derived.Test.YtnejcciociinmaaOrd4
import Derived.Test.YtnejcciociinmaaKit3
namespace Go.Proofs.Ytnejcciociinmaa
open Go.RowKit
attribute [local go_sem] yld yldUpon_value

theorem drawn_get (l : List UInt8) (d n : Nat) : drawn n (l.drop d) = (List.range n).map fun i => l.getD (d + i) 0 := by
  apply List.ext_getElem?
  intro i
  have hl : (l.drop d).length = l.length - d := List.length_drop
  unfold drawn
  by_cases hi : i < n
  · have h2 : ((List.range n).map fun i => l.getD (d + i) 0)[i]? = some (l.getD (d + i) 0) := by simp [hi]
    rw [h2]
    by_cases hd : d + i < l.length
    · rw [List.getElem?_append_left (by rw [List.length_take, hl]; omega), List.getElem?_take_of_lt hi, List.getElem?_drop, List.getD_eq_getElem?_getD, List.getElem?_eq_getElem hd]; rfl
    · rw [List.getElem?_append_right (by rw [List.length_take, hl]; omega), List.getElem?_replicate, if_pos (by rw [List.length_take, hl]; omega), List.getD_eq_getElem?_getD, List.getElem?_eq_none (by omega)]; rfl
  · rw [List.getElem?_eq_none (by rw [List.length_append, List.length_take, List.length_replicate, hl]; omega), List.getElem?_eq_none (by simp; omega)]
theorem range_succ_map (f : Nat → UInt8) (n : Nat) : (List.range (n + 1)).map f = (List.range n).map f ++ [f n] := by rw [List.range_succ, List.map_append]; rfl
theorem le8_take_succ (V v i : Nat) (h : i < 8) (b : UInt8) (hb : b = UInt8.ofNat V) (hV : V = v / 256 ^ i) : (le8 v).take (i + 1) = (le8 v).take i ++ [b] := by
  rw [List.take_succ_eq_append_getElem (by simp [le8]; exact h), le8_get v i (by simp [le8]; exact h), hb, hV]
  congr 2
  apply UInt8.toNat_inj.1
  simp [UInt8.toNat_ofNat']
theorem Try.rrowFields : ∃ fs, Try.prog.underlying 64 = some (.struct fs) ∧ (fs.toList.all fun f => (Try.prog.info? f.type).isSome) = true ∧ (fs.toList.map fun f => (f.offset, Try.prog.cellsOf f.type)).toArray = #[(0, 32), (32, 12), (44, 1), (45, 1), (46, 1)] :=
  ⟨_, Try.underlying64, by kernel_rfl, by kernel_rfl⟩
theorem run_build_rrow (w : World) (k n : List UInt8) (hk : k.length = 32) (hn : n.length = 12) (h p s : Value) (h1 : h.cells = #[h]) (h2 : p.cells = #[p]) (h3 : s.cells = #[s]) :
    (Instr.build 64 #[(0, .agg (bs k).toArray), (1, .agg (bs n).toArray), (2, h), (3, p), (4, s)]).run Try.prog w = .ok (.agg (bs k ++ (bs n ++ [h, p, s])).toArray) w := by
  obtain ⟨fs, hf, hall, hpl⟩ := Try.rrowFields
  obtain ⟨i, hi, hzz⟩ := Option.map_eq_some_iff.1 Try.infoRRow
  simp only [Prod.mk.injEq] at hzz
  obtain ⟨z, hz, hzs⟩ := Option.map_eq_some_iff.1 hzz.1
  have hc : ∀ l : List UInt8, (Value.agg (bs l).toArray).cells = (bs l).toArray := fun _ => rfl
  have e : partCells [(0, .agg (bs k).toArray), (1, .agg (bs n).toArray), (2, h), (3, p), (4, s)] = bs k ++ (bs n ++ [h, p, s]) := by
    simp [partCells, hc, h1, h2, h3]
  have := run_build_struct (P := Try.prog) w 64 fs i z _ hf hi hz hall hpl #[(0, .agg (bs k).toArray), (1, .agg (bs n).toArray), (2, h), (3, p), (4, s)]
    (by simp [FillSeq, hc, bs_length, hk, hn, h1, h2, h3]) (by rw [e, hzs]; simp [bs_length, hk, hn])
  rw [this, e]
/-- a round of the reference's drawing: one more drawn, a byte made to be appended -/
theorem draw_round {w2 wr wy : World} {b N c2 e : Nat} {SA RA A2 : Option Addr} {sn sc rn rc : Nat} {L : List UInt8} {x : UInt8} {u : Int} (hu : u = (x.toNat : Int)) (hy : wy.heap = wr.heap) (hby : Below wr.heap.size wr wy)
    (ho : wr.ownsRow w2.heap.size 5 1 (.slice A2 N c2) N (bs L)) (hb : wr.heap[b]? = some (.cells #[.slice SA sn sc, .int .i64 (e : Nat), .slice RA rn rc] 60 (0, 0))) (hf : Fr (fun k => k = b ∨ w2.heap.size ≤ k) w2 wr) (hbl : b < w2.heap.size) :
    (((wy.setCell ⟨b, 1, none⟩ (.int .i64 ((e : Int) + 1))).alloc (.cells #[.int .u8 u] 5)).ownsRow w2.heap.size 5 1 (.slice A2 N c2) N (bs L)) ∧
    ((wy.setCell ⟨b, 1, none⟩ (.int .i64 ((e : Int) + 1))).alloc (.cells #[.int .u8 u] 5)).heap[b]? = some (.cells #[.slice SA sn sc, .int .i64 ((e + 1 : Nat) : Int), .slice RA rn rc] 60 (0, 0)) ∧
    Fr (fun k => k = b ∨ w2.heap.size ≤ k) w2 ((wy.setCell ⟨b, 1, none⟩ (.int .i64 ((e : Int) + 1))).alloc (.cells #[.int .u8 u] 5)) ∧
    w2.heap.size ≤ ((wy.setCell ⟨b, 1, none⟩ (.int .i64 ((e : Int) + 1))).alloc (.cells #[.int .u8 u] 5)).heap.size ∧
    Rd ((wy.setCell ⟨b, 1, none⟩ (.int .i64 ((e : Int) + 1))).alloc (.cells #[.int .u8 u] 5)) (some ⟨wr.heap.size, 0, none⟩) (bs [x]) := by
  subst hu
  have hsy : wy.heap.size = wr.heap.size := by rw [hy]
  have hs : (wy.setCell ⟨b, 1, none⟩ (.int .i64 ((e : Int) + 1))).heap.size = wr.heap.size := by simp [World.setCell, hsy]
  have hby2 : wy.heap[b]? = some (.cells #[.slice SA sn sc, .int .i64 (e : Nat), .slice RA rn rc] 60 (0, 0)) := by rw [hy]; exact hb
  have f1 : Fr (fun k => k = b) wy (wy.setCell ⟨b, 1, none⟩ (.int .i64 ((e : Int) + 1))) := (Fr.refl (fun k => k = b) wy).setCell (p := ⟨b, 1, none⟩) (.inl rfl) _
  have f2 : Fr (fun k => k = b ∨ w2.heap.size ≤ k) w2 (wy.setCell ⟨b, 1, none⟩ (.int .i64 ((e : Int) + 1))) := (hf.trans (Fr.of_below (M := NoB) hby) (fun _ _ e => e.elim)).trans f1 (fun _ _ e => .inl e)
  have f3 := f2.tr (Fr.of_below (M := fun k => k = b ∨ w2.heap.size ≤ k) (Below.al (wy.setCell ⟨b, 1, none⟩ (.int .i64 ((e : Int) + 1))) (.cells #[.int .u8 (x.toNat : Int)] 5)))
  have hne : ∀ k, (Value.slice A2 N c2).ownBlock = some k → k ≠ b := fun k hk => by have := (ho.lt k hk).1; omega
  refine ⟨?_, ?_, f3, f3.size, ?_⟩
  · exact own_fr (own_fr (own_fr ho (Fr.of_below (M := NoB) hby) (fun _ _ e => e)) f1 hne) (Fr.of_below (M := NoB) (Below.al _ _)) (fun _ _ e => e)
  · refine heap_bel ?_ (Below.al _ _)
    have := heap_setCell_same wy b 1 _ _ (.int .i64 ((e : Int) + 1)) hby2
    rw [this]
    simp
  · have := Rd.one (wy.setCell ⟨b, 1, none⟩ (.int .i64 ((e : Int) + 1))) x
    rw [hs] at this; exact this
set_option maxRecDepth 100000 in
set_option maxHeartbeats 4000000 in
theorem RSeal_any (b : Nat) (F G : Nat → Prop) (l : List UInt8) (d : Nat) (rows : List BRow) (w : World) (h : RBoxAt w b F l d rows) (k n : List UInt8) (hk : k.length = 32) (hn : n.length = 12)
    (HA : Option Addr) (hn1 hc1 : Nat) (head : List UInt8) (hh : Sl w G HA hn1 hc1 head) (PA : Option Addr) (pn pc : Nat) (plain : List UInt8) (hp : Sl w G PA pn pc plain) (hG : ∀ k, G k → k < w.heap.size ∧ ¬ F k)
    (hb1 : hn1 ≤ 140737488355000) (hb2 : pn ≤ 1024) (hrl : rows.length ≤ 1000) (hd : d ≤ 1000000000) :
    Calls Try.prog 14 #[.pointer (some ⟨b, 0, none⟩), .agg (bs k).toArray, .agg (bs n).toArray, .slice HA hn1 hc1, .slice PA pn pc] w fun e w' =>
      ∃ F' A' c', e = .returned (.slice A' (16 + pn) c') ∧ w'.ownsRow w.heap.size 5 1 (.slice A' (16 + pn) c') (16 + pn) (bs (sealOf rows.length pn (l.drop d))) ∧
        RBoxAt w' b F' l (d + (8 + pn)) (rows ++ [⟨k, n, head, plain, sealOf rows.length pn (l.drop d)⟩]) ∧ (∀ j, F' j → F j ∨ w.heap.size ≤ j) ∧ (∀ j, (Value.slice A' (16 + pn) c').ownBlock = some j → ¬ F' j) ∧ Fr F w w' := by
  have H := Lib.hid h; have Hh := Lib.hid hh; have Hp := Lib.hid hp; have HG := Lib.hid hG
  have Hk := Lib.hid hk; have Hn := Lib.hid hn; have HB1 := Lib.hid hb1
  obtain ⟨h1, h2, SA, sn, sc, RA, rn, rc, cs, D, hb, hD, hss, hrn, hro, hrb, hr, hl⟩ := h
  have HR := Lib.hid hr; have HRO := Lib.hid hro; have HRB := Lib.hid hrb
  have HRN := Lib.hid hrn
  have hrnb : rn ≤ 1000 := by omega
  have hblt := h1 b h2
  have Hb := Lib.hid hb
  have H1 := Lib.hid h1; have HD := Lib.hid hD; have HSS := Lib.hid hss; have HL := Lib.hid hl; have HFb := Lib.hid h2
  have hsn : sn ≤ 140737488355000 := by have := hss.len; omega
  have u1 := Lib.hid Try.underlying38
  have u2 := Lib.hid Try.underlying40
  have i1 : Hid ((Try.prog.info? 38).map (·.size) = some (bs k).length) := by rw [bs_length, hk]; exact Try.szK
  have i2 : Hid ((Try.prog.info? 40).map (·.size) = some (bs n).length) := by rw [bs_length, hn]; exact Try.szN
  have BB : Hid (Below w.heap.size w ((w.alloc (.cells (bs k).toArray 38)).alloc (.cells (bs n).toArray 40))) := Below.tr (Below.al _ _) (Below.al _ _)
  have hK2 := Lib.hid (heap_alloc2_old w (.cells (bs k).toArray 38) (.cells (bs n).toArray 40))
  have hN2 := Lib.hid (heap_alloc2_new w (.cells (bs k).toArray 38) (.cells (bs n).toArray 40))
  have hsz2 : Hid (((w.alloc (.cells (bs k).toArray 38)).alloc (.cells (bs n).toArray 40)).heap.size = w.heap.size + 2) := by show _ = _; simp
  have hb20 := heap_bel Hb.out BB.out
  have c20 : ((w.alloc (.cells (bs k).toArray 38)).alloc (.cells (bs n).toArray 40)).cell? ⟨b, 2, none⟩ = some (.slice RA rn rc) := by rw [cell_of_row _ b 2 _ _ _ hb20]; rfl
  clear h2 hb h1 hD hss hro hrb hr hl hh hp hG hk hn hb1 hrn hrl H
  obtain ⟨V0, hV0⟩ : ∃ V0, V0 = rows.length := ⟨_, rfl⟩
  have HV0 : Hid (rn = V0) := by rw [hV0]; exact HRN.out
  rw [← hV0]
  clear hV0
  go_enter Try.func14, Try.ntmps14
  go_wp2_with fail
  generalize hnb : w.heap.size + 1 = nb at hK2 hN2 ⊢
  generalize hkb : w.heap.size = kb at hK2 hN2 ⊢
  have Hnb := Lib.hid hnb; have Hkb := Lib.hid hkb
  generalize hgw : (w.alloc (.cells (bs k).toArray 38)).alloc (.cells (bs n).toArray 40) = w2 at BB hK2 hN2 hsz2 hb20 c20 ⊢
  have hsz : Hid (w2.heap.size = w.heap.size + 2) := hsz2
  have BW : Hid (Below w.heap.size w w2) := BB
  have HB2 := Lib.hid hb20
  clear hnb hkb BB hgw hsz2 c20 hb20
  go_loopw [11, 12, 13] (fun out v z wr => ∃ (i V : Nat) (A' : Option Addr) (c' : Nat), i ≤ 8 ∧ z = .int .i64 (i : Nat) ∧ v = .int .i64 (V : Nat) ∧ out = .slice A' i c' ∧ Hid (V = V0 / 256 ^ i ∧ wr.ownsRow w2.heap.size 5 1 (.slice A' i c') i (bs ((le8 V0).take i)) ∧ Below w2.heap.size w2 wr)) (fun _ _ z _ => 8 - (intOf z).toNat)
  case atStart => exact ⟨0, rn, none, 0, Nat.zero_le _, rfl, rfl, rfl, Lib.hid ⟨by simpa using HV0.out, World.ownsRow_nil _ _ _ _, Below.refl _ _⟩⟩
  case round =>
    obtain ⟨i, V, A1, c1, hi, rfl, rfl, rfl, I⟩ := hrel
    have hi0 : (0 : Int) ≤ (i : Int) := by omega
    by_cases hlt : i < 8
    · have hiI : (i : Int) < 8 := by omega
      have hVb : V ≤ 1000 := by have := I.out.1; have := HV0.out; have h9 := Nat.div_le_self V0 (256 ^ i); omega
      obtain ⟨x, hx⟩ : ∃ x, x = UInt8.ofNat V := ⟨_, rfl⟩
      have hbn : x.toNat = V % 256 := by rw [hx]; simp
      have hr : (V : Int) % 256 = (x.toNat : Int) := by omega
      have hrt : (V : Int).tmod 256 = (x.toNat : Int) := by rw [Int.tmod_eq_emod_of_nonneg (by omega)]; exact hr
      have hq : (V : Int).tdiv 256 = ((V / 256 : Nat) : Int) := by rw [Int.tdiv_eq_ediv_of_nonneg (by omega)]; omega
      have hb0 : x.toNat ≤ 255 := by omega
      have hbw : IntKind.u8.wrap (x.toNat : Int) = (x.toNat : Int) := by rw [IntKind.wrap_u8]; omega
      have e1 : Hid ((le8 V0).take (i + 1) = (le8 V0).take i ++ [x]) := Lib.hid (le8_take_succ V V0 i hlt x hx I.out.1)
      have e2 : Hid (V / 256 = V0 / 256 ^ (i + 1)) := Lib.hid (by rw [I.out.1, Nat.pow_succ, ← Nat.div_div_eq_div_mul])
      have Oa := Lib.hid (I.out.2.1.alloc (.cells #[.int .u8 (x.toNat : Int)] 5))
      have Za : Hid (w2.heap.size ≤ (wr.alloc (.cells #[.int .u8 (x.toNat : Int)] 5)).heap.size) := Lib.hid (by have := I.out.2.2.size; rw [World.size_alloc]; omega)
      have Ba := Lib.hid (Below.trans I.out.2.2 ((Below.al wr (.cells #[.int .u8 (x.toNat : Int)] 5)).mono I.out.2.2.size))
      have hi8 : Hid (i + 1 ≤ 140737488355328) := Lib.hid (by omega)
      have R1 : Hid (Rd (wr.alloc (.cells #[.int .u8 (x.toNat : Int)] 5)) (some ⟨wr.heap.size, 0, none⟩) (bs [x])) := Lib.hid (Rd.one wr x)
      clear hx hbn I
      go_wp2_with (
        at_builtin
        refine append_bytes rfl (.tmp 25) (.tmp 29) rfl w2.heap.size A1 i c1 _ rfl Oa.out (some ⟨wr.heap.size, 0, none⟩) 1 1 [x] rfl rfl R1.out hi8.out Za.out ?_
        intro A2 c2 w3 hown2 hg2 _
        have O2 := Lib.hid hown2
        have B2 := Lib.hid (Ba.out.grown hg2 Za.out (fun j hj => (Oa.out.lt j hj).1))
        clear hown2 hg2)
      go_roundw
      case rel => exact ⟨i + 1, V / 256, A2, c2, by omega, by go_num, by first | rfl | (rw [← hq]; rfl) | simp, rfl, Lib.hid ⟨e2.out, by rw [e1.out]; exact O2.out, B2.out⟩⟩
      case measure => simp [intOf]; omega
    · have hiI : ¬ (i : Int) < 8 := by omega
      have hi8 : i = 8 := by omega
      subst hi8
      have O := Lib.hid I.out.2.1; have B := Lib.hid I.out.2.2
      have hO8 : Hid (wr.ownsRow w2.heap.size 5 1 (.slice A1 8 c1) 8 (bs (le8 V0))) := by
        have h := O.out
        rw [List.take_of_length_le (by simp [le8])] at h
        exact h
      have hHb : Hid (wr.heap[b]? = some (.cells #[.slice SA sn sc, .int .i64 (d : Nat), .slice RA rn rc] 60 (0, 0))) := heap_bel HB2.out B.out
      clear I O
      go_wp2_with fail
      obtain ⟨wq, hwq⟩ : ∃ wq, wq = wr := ⟨_, rfl⟩
      subst hwq
      go_loopw [11, 14] (fun out z wr => ∃ (j N : Nat) (A' : Option Addr) (c' : Nat), j ≤ 8 + pn ∧ N = 8 + j ∧ z = .int .i64 (j : Nat) ∧ out = .slice A' N c' ∧ Hid (wr.ownsRow w2.heap.size 5 1 (.slice A' N c') N (bs (le8 V0 ++ (List.range j).map fun i => l.getD (d + i) 0)) ∧ wr.heap[b]? = some (.cells #[.slice SA sn sc, .int .i64 ((d + j : Nat) : Int), .slice RA rn rc] 60 (0, 0)) ∧ Fr (fun k => k = b ∨ w2.heap.size ≤ k) w2 wr)) (fun _ z _ => (8 + pn) - (intOf z).toNat)
      case atStart => exact ⟨0, 8, A1, c1, Nat.zero_le _, rfl, rfl, rfl, Lib.hid ⟨by simpa using hO8.out, hHb.out, Fr.of_below B.out⟩⟩
      case round =>
        clear hO8 hHb B
        obtain ⟨j, N, A2, c2, hj, hN, rfl, rfl, I⟩ := hrel
        have hj0 : (0 : Int) ≤ (j : Int) := by omega
        by_cases hjl : j < 8 + pn
        · have hjI : (j : Int) < 8 + (pn : Int) := by omega
          obtain ⟨e, he⟩ : ∃ e, e = d + j := ⟨_, rfl⟩
          have HE := Lib.hid he
          have cb0 : wr.cell? ⟨b, 0, none⟩ = some (.slice SA sn sc) := by rw [cell_of_row _ b 0 _ _ _ I.out.2.1]; rfl
          have cb1 : wr.cell? ⟨b, 1, none⟩ = some (.int .i64 (e : Nat)) := by rw [cell_of_row _ b 1 _ _ _ I.out.2.1, he]; rfl
          have hz1 : wr.frozen? ⟨b, 1, none⟩ = false := by simp [World.frozen?, I.out.2.1]
          have heb : e ≤ 1000002000 := by omega
          have he0 : (0 : Int) ≤ (e : Int) := by omega
          have hdl : Hid (∀ k, D k → k < wr.heap.size) := Lib.hid (fun k hk => Nat.lt_of_lt_of_le (H1.out k (HD.out k hk).1) (Nat.le_trans BW.out.size I.out.2.2.size))
          have SS : Hid (Sl wr D SA sn sc l) := (HSS.out.belF BW.out (fun k hk => H1.out k (HD.out k hk).1)).fr I.out.2.2 (fun k hk => ⟨Nat.lt_of_lt_of_le (H1.out k (HD.out k hk).1) BW.out.size, fun e => by
            rcases e with e | e
            · exact (HD.out k hk).2.1 e
            · have := H1.out k (HD.out k hk).1; have := hsz.out; omega⟩)
          obtain ⟨x, hx⟩ : ∃ x, x = l.getD (d + j) 0 := ⟨_, rfl⟩
          have e1 : Hid ((List.range (j + 1)).map (fun i => l.getD (d + i) 0) = (List.range j).map (fun i => l.getD (d + i) 0) ++ [x]) := Lib.hid (by rw [range_succ_map, hx])
          have lw : b < wr.heap.size := block_lt_of cb0
          have hbl : Hid (b < w2.heap.size) := Lib.hid (Nat.lt_of_lt_of_le hblt BW.out.size)
          have hN8 : Hid (N + 1 = 8 + (j + 1)) := Lib.hid (by omega)
          have hNb : Hid (N + 1 ≤ 140737488355328) := Lib.hid (by omega)
          have HNN := Lib.hid hN
          clear hN
          have fin : Hid (∀ wn m : Nat, ∀ w5 : World, Below wr.heap.size wr w5 → True) := fun _ _ _ _ => trivial
          clear fin
          by_cases hdl2 : e < sn
          · have hdI : (e : Int) < (sn : Int) := by omega
            have hel : e < l.length := by rw [SS.out.len]; exact hdl2
            obtain ⟨ad, rfl, hcx⟩ := SS.out.rd.at_ hel
            have hxe : (l[e].toNat : Int) = (x.toNat : Int) := by rw [hx, ← he, List.getD_eq_getElem?_getD, List.getElem?_eq_getElem hel]; rfl
            rw [hxe] at hcx
            clear hx hxe
            have HIB : Hid (wr.heap[b]? = some (.cells #[.slice (some ad) sn sc, .int .i64 (e : Nat), .slice RA rn rc] 60 (0, 0))) := by rw [he]; exact I.out.2.1
            clear he
            go_wp2_with fail
            go_quiet (fail)
            generalize nq = nqa
            go_wp2_with fail
            go_quiet (fail)
            obtain ⟨q1, q2, q3, q4, q5⟩ := draw_round (x := x) (u := (x.toNat : Int)) (wr := wr) (wy := wr.drewN (nqa + nq)) rfl rfl (Below.drN wr (nqa + nq)) I.out.1 HIB.out I.out.2.2 hbl.out
            have Q1 := Lib.hid q1; have Q2 := Lib.hid q2; have Q3 := Lib.hid q3; have Q4 := Lib.hid q4; have Q5 := Lib.hid q5
            clear q1 q2 q3 q4 q5
            go_wp2_with (
              at_builtin
              refine append_bytes rfl (.tmp 68) (.tmp 70) rfl w2.heap.size A2 N c2 _ rfl Q1.out (some ⟨wr.heap.size, 0, none⟩) 1 1 [x] rfl rfl Q5.out hNb.out Q4.out ?_
              intro A5 c5 w5 hown5 hg5 _
              have O5 := Lib.hid hown5
              have F5 := Lib.hid (Q3.out.tr ((Fr.of_grown hg5).mono (fun k _ e => .inr (Q1.out.lt k e.symm).1)))
              have H5 := Lib.hid (((Fr.of_grown hg5).block b (Array.getElem?_eq_some_iff.1 Q2.out).1 (fun e => by have := (Q1.out.lt b e.symm).1; have := hbl.out; omega)).trans Q2.out)
              clear hown5 hg5)
            go_roundw
            case rel => exact ⟨j + 1, N + 1, A5, c5, by omega, hN8.out, by go_num, rfl, Lib.hid ⟨by rw [e1.out, ← List.append_assoc]; exact O5.out, by have h := H5.out; rw [show d + (j + 1) = e + 1 by have := HE.out; omega]; exact h, F5.out⟩⟩
            case measure => simp [intOf]; omega
          · have hdI : ¬ (e : Int) < (sn : Int) := by omega
            have hx0 : x = 0 := by rw [hx, List.getD_eq_getElem?_getD, List.getElem?_eq_none (by rw [SS.out.len]; omega)]; rfl
            subst hx0
            have HIB : Hid (wr.heap[b]? = some (.cells #[.slice SA sn sc, .int .i64 (e : Nat), .slice RA rn rc] 60 (0, 0))) := by rw [he]; exact I.out.2.1
            clear hx he
            go_wp2_with fail
            go_quiet (fail)
            obtain ⟨q1, q2, q3, q4, q5⟩ := draw_round (x := 0) (u := 0) (wr := wr) (wy := wr.drewN nq) rfl rfl (Below.drN wr nq) I.out.1 HIB.out I.out.2.2 hbl.out
            have Q1 := Lib.hid q1; have Q2 := Lib.hid q2; have Q3 := Lib.hid q3; have Q4 := Lib.hid q4; have Q5 := Lib.hid q5
            clear q1 q2 q3 q4 q5
            go_wp2_with (
              at_builtin
              refine append_bytes rfl (.tmp 68) (.tmp 70) rfl w2.heap.size A2 N c2 _ rfl Q1.out (some ⟨wr.heap.size, 0, none⟩) 1 1 [0] rfl rfl Q5.out hNb.out Q4.out ?_
              intro A5 c5 w5 hown5 hg5 _
              have O5 := Lib.hid hown5
              have F5 := Lib.hid (Q3.out.tr ((Fr.of_grown hg5).mono (fun k _ e => .inr (Q1.out.lt k e.symm).1)))
              have H5 := Lib.hid (((Fr.of_grown hg5).block b (Array.getElem?_eq_some_iff.1 Q2.out).1 (fun e => by have := (Q1.out.lt b e.symm).1; have := hbl.out; omega)).trans Q2.out)
              clear hown5 hg5)
            go_roundw
            case rel => exact ⟨j + 1, N + 1, A5, c5, by omega, hN8.out, by go_num, rfl, Lib.hid ⟨by rw [e1.out, ← List.append_assoc]; exact O5.out, by have h := H5.out; rw [show d + (j + 1) = e + 1 by have := HE.out; omega]; exact h, F5.out⟩⟩
            case measure => simp [intOf]; omega
        · have hjI : ¬ (j : Int) < 8 + (pn : Int) := by omega
          have hj8 : j = 8 + pn := by omega
          subst hj8
          obtain rfl : N = 16 + pn := by omega
          clear hN
          have EO : Hid (le8 V0 ++ ((List.range (8 + pn)).map fun i => l.getD (d + i) 0) = sealOf V0 pn (l.drop d)) := by show _ = _; unfold sealOf; rw [drawn_get]
          obtain ⟨OUT, hOUT⟩ : ∃ OUT, OUT = sealOf V0 pn (l.drop d) := ⟨_, rfl⟩
          rw [← hOUT] at EO
          have O2 : Hid (wr.ownsRow w2.heap.size 5 1 (.slice A2 (16 + pn) c2) (16 + pn) (bs OUT)) := by rw [← EO.out]; exact I.out.1
          have HBr := Lib.hid I.out.2.1
          have FR := Lib.hid I.out.2.2
          have HOL : Hid (OUT.length = 16 + pn) := by have h := O2.out.1; rw [bs_length] at h; show _ = _; omega
          have c2c : wr.cell? ⟨b, 2, none⟩ = some (.slice RA rn rc) := by rw [cell_of_row _ b 2 _ _ _ HBr.out]; rfl
          have lb : b < wr.heap.size := block_lt_of c2c
          have kbne : kb ≠ b ∧ kb < w2.heap.size := by have := Hkb.out; have := hsz.out; omega
          have nbne : nb ≠ b ∧ nb < w2.heap.size := by have := Hnb.out; have := Hkb.out; have := hsz.out; omega
          have hk2 : wr.heap[kb]? = some (.cells (bs k).toArray 38 (0, 0)) := (FR.out.block kb kbne.2 (fun e => by rcases e with e | e; exact kbne.1 e; omega)).trans hK2.out
          have hn2 : wr.heap[nb]? = some (.cells (bs n).toArray 40 (0, 0)) := (FR.out.block nb nbne.2 (fun e => by rcases e with e | e; exact nbne.1 e; omega)).trans hN2.out
          have r1 : Hid (wr.rangeAt kb 0 (bs k)) := range_block hk2
          have r2 : Hid (wr.rangeAt nb 0 (bs n)) := range_block hn2
          have l1 : kb < wr.heap.size := (Array.getElem?_eq_some_iff.1 hk2).1
          have l2 : nb < wr.heap.size := (Array.getElem?_eq_some_iff.1 hn2).1
          have ZR : Hid (w.heap.size ≤ wr.heap.size) := Nat.le_trans BW.out.size FR.out.size
          have FRw : Hid (Fr (fun k => k = b ∨ w2.heap.size ≤ k) w wr) := (Fr.of_below BW.out).tr FR.out
          have GF : Hid (∀ k, G k → k < w.heap.size ∧ ¬ (k = b ∨ w2.heap.size ≤ k)) := Lib.hid (fun k hk => ⟨(HG.out k hk).1, fun e => by
            rcases e with e | e
            · exact (HG.out k hk).2 (by rw [e]; exact HFb.out)
            · have := (HG.out k hk).1; have := BW.out.size; omega⟩)
          have SH := Lib.hid (Hh.out.fr FRw.out GF.out)
          have SP := Lib.hid (Hp.out.fr FRw.out GF.out)
          have GL : Hid (∀ k, G k → k < wr.heap.size) := Lib.hid (fun k hk => Nat.lt_of_lt_of_le (GF.out k hk).1 ZR.out)
          have DF : Hid (∀ k, D k → k < w.heap.size ∧ ¬ (k = b ∨ w2.heap.size ≤ k)) := Lib.hid (fun k hk => ⟨H1.out k (HD.out k hk).1, fun e => by
            rcases e with e | e
            · exact (HD.out k hk).2.1 e
            · have := H1.out k (HD.out k hk).1; have := BW.out.size; omega⟩)
          have RF : Hid (∀ k, (Value.slice RA rn rc).ownBlock = some k → ¬ (k = b ∨ w2.heap.size ≤ k)) := Lib.hid (fun k hk e => by
            rcases e with e | e
            · exact (HRB.out k hk).2 e
            · have := H1.out k (HRB.out k hk).1; have := BW.out.size; omega)
          have RO := Lib.hid (own_fr HRO.out FRw.out RF.out)
          have RR := Lib.hid (RowsAt.fr FRw.out DF.out rows cs HR.out)
          have SS := Lib.hid (HSS.out.fr FRw.out DF.out)
          have HOUT := Lib.hid hOUT
          obtain ⟨ir, hir, hzz⟩ := Option.map_eq_some_iff.1 Try.infoRRow
          simp only [Prod.mk.injEq] at hzz
          obtain ⟨hzz1, hzz2, hzz3⟩ := hzz
          obtain ⟨zr, hzr, hzs⟩ := Option.map_eq_some_iff.1 hzz1
          have Hir := Lib.hid hir; have Hz2 := Lib.hid hzz2; have Hz3 := Lib.hid hzz3; have Hzr := Lib.hid hzr; have Hzs := Lib.hid hzs
          have HB1' := HB1.out
          clear hOUT I hk2 hn2 hir hzz1 hzz2 hzz3 hzr hzs hK2 hN2 kbne nbne EO
          go_wp2_with fail
          refine wp_calm ?_
          refine wp_region_oc (fun _ w' => Below (wr).drew.heap.size (wr).drew w') [4, 5, 6] [(13, 5, [12]), (13, 6, [12]), (14, 5, [13, 12]), (14, 6, [13, 12])] (.move 0 (.move 1 (.move 2 (.move 3 (.take 4 (.take 5 (.take 6 (.move 7 (.move 9 (.move 11 (.run 8 [4, 5, 6] (.run 10 [4, 5, 6] (.run 12 [4] (.run 13 [4] (.run 14 [] (.move 15 (.move 16 (.run 17 [] .done)))))))))))))))))) (by kernel_rfl) (by kernel_rfl) (fun _ _ _ _ _ h => nomatch h.1) ?_
          have hS0 : Below (wr).drew.heap.size (wr).drew (wr).drew := Below.refl _ _
          refine os_move rfl rfl rfl (Nat.le_of_ble_eq_true rfl) ?_
          apply Exists.intro
          refine ⟨fun w' K hK => ?_, ?_⟩
          (focus
            go_simp
            exact hK)
          refine os_move rfl rfl rfl (Nat.le_of_ble_eq_true rfl) ?_
          apply Exists.intro
          refine ⟨fun w' K hK => ?_, ?_⟩
          (focus
            go_simp
            exact hK)
          refine os_move rfl rfl rfl (Nat.le_of_ble_eq_true rfl) ?_
          apply Exists.intro
          refine ⟨fun w' K hK => ?_, ?_⟩
          (focus
            go_simp
            exact hK)
          refine os_move rfl rfl rfl (Nat.le_of_ble_eq_true rfl) ?_
          apply Exists.intro
          refine ⟨fun w' K hK => ?_, ?_⟩
          (focus
            go_simp
            exact hK)
          refine os_yld hS0 rfl rfl rfl (Nat.le_of_ble_eq_true rfl) ?_
          apply Exists.intro
          refine ⟨fun w' hS' K hK => ?_, ?_⟩
          (focus
            obtain ⟨hcc, hff⟩ := bcellB (Below.undr hS')
            clear hS'
            go_simp
            exact hK)
          refine os_load_mid 38 (.tmp 6) (kb) (0) (bs k) _ hS0 rfl rfl rfl rfl rfl (u1.out) rfl (i1.out) (fun w' h => rangeAt_bel (range_dr (r1.out)) h l1) ⟨_, rfl, ?_⟩
          refine os_load_mid 40 (.tmp 7) (nb) (0) (bs n) _ hS0 rfl rfl rfl rfl rfl (u2.out) rfl (i2.out) (fun w' h => rangeAt_bel (range_dr (r2.out)) h l2) ⟨_, rfl, ?_⟩
          refine os_move rfl rfl rfl (Nat.le_of_ble_eq_true rfl) ?_
          apply Exists.intro
          refine ⟨fun w' K hK => ?_, ?_⟩
          (focus
            go_simp
            exact hK)
          refine os_move rfl rfl rfl (Nat.le_of_ble_eq_true rfl) ?_
          apply Exists.intro
          refine ⟨fun w' K hK => ?_, ?_⟩
          (focus
            go_simp
            exact hK)
          refine os_move rfl rfl rfl (Nat.le_of_ble_eq_true rfl) ?_
          apply Exists.intro
          refine ⟨fun w' K hK => ?_, ?_⟩
          (focus
            go_simp
            exact hK)
          refine os_run rfl rfl (fun K hK => ?_)
          go_wp2_with fail
          refine (CopyBytes_sl (SH.out.belF (Below.undr hS0) GL.out) (fun k hk => Nat.lt_of_lt_of_le (GL.out k hk) (Below.undr hS0).size) (by omega)).mono ?_
          rintro e w3 ⟨A3, c3, rfl, ho3, hb3⟩
          have O3 := Lib.hid ho3
          have b3 := Lib.hid (Below.tr (Below.undr hS0) hb3)
          clear ho3
          go_wp2_with fail
          refine ⟨fun _ _ h => Below.tr h (hb3), ?_⟩
          replace hS0 := Below.tr hS0 (hb3)
          refine os_run rfl rfl (fun K hK => ?_)
          go_wp2_with fail
          refine (CopyBytes_sl (SP.out.belF b3.out GL.out) (fun k hk => Nat.lt_of_lt_of_le (GL.out k hk) b3.out.size) (by omega)).mono ?_
          rintro e w4 ⟨A4, c4, rfl, ho4, hb4⟩
          have O4 := Lib.hid ho4
          have P3 := Lib.hid (own_fr O3.out (Fr.of_below (M := NoB) hb4) (fun _ _ e => e))
          have b4 := Lib.hid (Below.tr b3.out hb4)
          have Z34 : Hid (w3.heap.size ≤ w4.heap.size) := hb4.size
          clear ho4 O3
          go_wp2_with fail
          refine ⟨fun _ _ h => Below.tr h (hb4), ?_⟩
          replace hS0 := Below.tr hS0 (hb4)
          refine os_run rfl rfl (fun K hK => ?_)
          refine wp_build 64 _ #[(0, .agg (bs k).toArray), (1, .agg (bs n).toArray), (2, .slice A3 hn1 c3), (3, .slice A4 pn c4), (4, .slice A2 (16 + pn) c2)] _ rfl (by simp only [List.map_toArray, List.map_cons, List.map_nil]; rfl) (run_build_rrow w4 k n Hk.out Hn.out (.slice A3 hn1 c3) (.slice A4 pn c4) (.slice A2 (16 + pn) c2) rfl rfl rfl) ?_
          have hclen : Hid ((bs k ++ (bs n ++ [Value.slice A3 hn1 c3, Value.slice A4 pn c4, Value.slice A2 (16 + pn) c2])).length = 47) := by show _ = _; simp [bs_length, Hk.out, Hn.out]
          have hcone : Hid (∀ u ∈ bs k ++ (bs n ++ [Value.slice A3 hn1 c3, Value.slice A4 pn c4, Value.slice A2 (16 + pn) c2]), u.oneCell' = true) := by
            intro u hu
            simp only [List.mem_append, List.mem_cons, List.not_mem_nil, or_false] at hu
            rcases hu with hu | hu | rfl | rfl | rfl
            · exact bs_oneCell k u hu
            · exact bs_oneCell n u hu
            · rfl
            · rfl
            · rfl
          refine hK _ _ ⟨fun _ _ h => Below.tr h (Below.refl _ _), ?_⟩
          clear hK
          replace hS0 := Below.tr hS0 (Below.refl _ _)
          refine os_run rfl rfl (fun K hK => ?_)
          generalize hcl : bs k ++ (bs n ++ [Value.slice A3 hn1 c3, Value.slice A4 pn c4, Value.slice A2 (16 + pn) c2]) = CL at hclen hcone ⊢
          have HCL := Lib.hid hcl
          refine wp_buildSlice_one 58 64 _ ir zr (.agg CL.toArray) rfl rfl Try.underlying58 Hir.out Hzr.out (by rw [Hz2.out]; simpa [Value.cells] using hclen.out) (by rw [Hz2.out]; exact Hzs.out) (by rw [Hz2.out]; omega) (by rw [Hz2.out]; omega) ?_
          have b5 : Hid (Below wr.heap.size wr (w4.alloc (.cells CL.toArray 64))) := Below.tr b4.out (Below.al w4 _)
          have h45 : Hid (Below w4.heap.size w4 (w4.alloc (.cells CL.toArray 64))) := Below.al w4 _
          have hsrc : Hid (Rd (w4.alloc (.cells CL.toArray 64)) (some ⟨w4.heap.size, 0, none⟩) CL) := by
            have := Rd.of_block (heap_alloc_new w4 (.cells CL.toArray 64)); exact Lib.hid (by simpa using this)
          clear hcl
          refine hK _ _ ⟨fun _ _ h => Below.tr h (Below.al w4 (.cells CL.toArray 64)), ?_⟩
          clear hK
          replace hS0 := Below.tr hS0 (Below.al w4 (.cells CL.toArray 64))
          refine os_run rfl rfl (fun K hK => ?_)
          have hcl47 := hclen.out
          refine wp_append_rd (w4.alloc (.cells CL.toArray 64)) _ _ 58 rfl 0 64 ir zr 47 120 Try.underlying58 Hir.out Hzr.out Hz2.out Hz3.out Hzs.out (by omega) (.slice RA rn rc) rn cs rfl
            (own_fr RO.out (Fr.of_below (M := NoB) b5.out) (fun _ _ e => e)) (some ⟨w4.heap.size, 0, none⟩) 1 1 CL rfl (by omega) hsrc.out hcone.out (by simp only [maxLen]; omega) (by omega) (Nat.zero_le _) ?_
          intro A7 c7 w7 hown7 hg7 hat7
          have O7 := Lib.hid hown7; have AT7 := Lib.hid hat7
          have F7 : Hid (Fr (fun j => some j = (Value.slice RA rn rc).ownBlock) (w4.alloc (.cells CL.toArray 64)) w7) := Fr.of_grown hg7
          have h7b : Hid (w7.heap[b]? = some (.cells #[.slice SA sn sc, .int .i64 ((d + (8 + pn) : Nat) : Int), .slice RA rn rc] 60 (0, 0))) := (F7.out.block b (Nat.lt_of_lt_of_le lb b5.out.size) (fun e => (RF.out b e.symm) (.inl rfl))).trans (heap_bel HBr.out b5.out)
          have c7c : w7.cell? ⟨b, 2, none⟩ = some (.slice RA rn rc) := by rw [cell_of_row _ b 2 _ _ _ h7b.out]; rfl
          have z7 : w7.frozen? ⟨b, 2, none⟩ = false := by simp [World.frozen?, h7b.out]
          have l7 : b < w7.heap.size := block_lt_of c7c
          clear hown7 hat7 hg7 hcl47
          refine hK _ _ ⟨fun _ hk => absurd hk List.not_mem_nil, ?_⟩
          clear hK
          refine os_move rfl rfl rfl (Nat.le_of_ble_eq_true rfl) ?_
          apply Exists.intro
          refine ⟨fun w' K hK => ?_, ?_⟩
          (focus
            go_simp
            exact hK)
          refine os_move rfl rfl rfl (Nat.le_of_ble_eq_true rfl) ?_
          apply Exists.intro
          refine ⟨fun w' K hK => ?_, ?_⟩
          (focus
            go_simp
            exact hK)
          refine os_run rfl rfl (fun K hK => ?_)
          go_wp2_with fail
          refine ⟨fun _ hk => absurd hk List.not_mem_nil, ?_⟩
          refine os_done ⟨rfl, ?_⟩
          have f8 : Fr (fun j => j = b) w7 (w7.setCell ⟨b, 2, none⟩ (.slice A7 (rn + 1) c7)) := (Fr.refl (fun j => j = b) w7).setCell (p := ⟨b, 2, none⟩) (.inl rfl) _
          have h8b : Hid ((w7.setCell ⟨b, 2, none⟩ (.slice A7 (rn + 1) c7)).heap[b]? = some (.cells #[.slice SA sn sc, .int .i64 ((d + (8 + pn) : Nat) : Int), .slice A7 (rn + 1) c7] 60 (0, 0))) := by
            have := heap_setCell_same w7 b 2 _ _ (.slice A7 (rn + 1) c7) h7b.out
            show _ = _
            rw [this]; simp
          have F8 := Lib.hid f8
          generalize w7.setCell ⟨b, 2, none⟩ (.slice A7 (rn + 1) c7) = w8 at F8 h8b ⊢
          clear f8 c7c z7 l7 hS0 r1 r2 l1 l2 c2c lb
          go_wp2_with fail
          have FX : Hid (Fr (fun j => j = b ∨ some j = (Value.slice RA rn rc).ownBlock) wr w8) := ((Fr.of_below (M := fun j => j = b ∨ some j = (Value.slice RA rn rc).ownBlock) b5.out).trans F7.out (fun _ _ e => .inr e)).trans F8.out (fun _ _ e => .inl e)
          have Z8 : Hid (wr.heap.size ≤ w8.heap.size) := FX.out.size
          have Z47 : Hid (w4.heap.size < w7.heap.size) := by
            have h1 := F7.out.size
            rw [World.size_alloc] at h1
            show _ < _; omega
          have ZB2 : Hid (b < w2.heap.size ∧ w.heap.size ≤ w2.heap.size ∧ w2.heap.size ≤ wr.heap.size ∧ wr.heap.size ≤ w3.heap.size) := ⟨Nat.lt_of_lt_of_le hblt BW.out.size, BW.out.size, FR.out.size, b3.out.size⟩
          have OWNR : Hid (∀ j, (Value.slice RA rn rc).ownBlock = some j → j < w.heap.size ∧ F j) := Lib.hid (fun j hj => ⟨H1.out j (HRB.out j hj).1, (HRB.out j hj).1⟩)
          have O8 : Hid (w8.ownsRow w2.heap.size 5 1 (.slice A2 (16 + pn) c2) (16 + pn) (bs OUT)) := own_fr O2.out FX.out (fun k hk e => by
            have h1 := (O2.out.lt k hk).1
            have h2 := ZB2.out
            rcases e with e | e
            · omega
            · have := (OWNR.out k e.symm).1; omega)
          have S8 := Lib.hid (Sl.of_own O8.out)
          refine (CopyBytes_sl S8.out (fun k hk => hk.2.1) (by omega)).mono ?_
          rintro e w9 ⟨A9, c9, rfl, ho9, hb9⟩
          have O9 := Lib.hid ho9
          have b89 := Lib.hid hb9
          clear ho9 hb9
          go_wp2_with fail
          go_ret
          have zb2 := ZB2.out
          have z8 := Z8.out
          have z89 := b89.out.size
          have zhl := Hh.out.len
          have zpl := Hp.out.len
          have zol := HOL.out
          have f9 : Fr (fun j => j = b ∨ some j = (Value.slice RA rn rc).ownBlock) wr w9 := FX.out.tr (Fr.of_below b89.out)
          have OLD : ∀ k, w2.heap.size ≤ k → ¬ (k = b ∨ some k = (Value.slice RA rn rc).ownBlock) := fun k hk e => by
            rcases e with e | e
            · omega
            · have := (OWNR.out k e.symm).1; omega
          have DOLD : ∀ k, D k → k < wr.heap.size ∧ ¬ (k = b ∨ some k = (Value.slice RA rn rc).ownBlock) := fun k hk => ⟨by have := (DF.out k hk).1; omega, fun e => by
            rcases e with e | e
            · exact (HD.out k hk).2.1 e
            · exact (HD.out k hk).2.2 e.symm⟩
          have A7n : ∀ j, (Value.slice A7 (rn + 1) c7).ownBlock = some j → (F j ∨ (w4.heap.size ≤ j ∧ j < w8.heap.size)) ∧ j ≠ b := fun j hj => by
            rcases AT7.out with h | h
            · exact ⟨.inl (OWNR.out j (h ▸ hj)).2, (HRB.out j (h ▸ hj)).2⟩
            · have h1 := (O7.out.lt j hj).2
              have h2 := F8.out.size
              rw [h, World.size_alloc] at hj
              injection hj with hj
              have h3 := b4.out.size
              exact ⟨.inr ⟨by omega, by omega⟩, by omega⟩
          have hF' : ∀ k, (F k ∨ (w2.heap.size ≤ k ∧ k < w8.heap.size)) → k < w9.heap.size := fun k hk => by
            rcases hk with hk | hk
            · have := H1.out k hk; omega
            · omega
          have z48 : w4.heap.size ≤ w8.heap.size := by have := Z47.out; have := F8.out.size; omega
          have z34 := Z34.out
          rw [← HOUT.out]
          refine ⟨fun k => F k ∨ (w2.heap.size ≤ k ∧ k < w8.heap.size), A9, c9, rfl, own_mono O9.out (by omega), ⟨hF', .inl HFb.out, SA, sn, sc, A7, rn + 1, c7, cs ++ CL, fun k => D k ∨ (w2.heap.size ≤ k ∧ k < w4.heap.size), ?_, fun k hk => ?_, ?_, ?_, ?_, fun k hk => ?_, ?_, HL.out⟩, fun j hj => ?_, fun j hj => ?_, ?_⟩
          · exact heap_bel h8b.out b89.out
          · rcases hk with hk | hk
            · refine ⟨.inl (HD.out k hk).1, (HD.out k hk).2.1, fun e => ?_⟩
              rcases AT7.out with h | h
              · exact (HD.out k hk).2.2 (h ▸ e)
              · rw [h, World.size_alloc] at e
                injection e with e
                have := (DF.out k hk).1
                have h3 := b4.out.size
                omega
            · refine ⟨.inr ⟨hk.1, by omega⟩, by omega, fun e => ?_⟩
              rcases AT7.out with h | h
              · have := (OWNR.out k (h ▸ e)).1; omega
              · rw [h, World.size_alloc] at e
                injection e with e
                omega
          · exact (SS.out.fr f9 DOLD).mono (fun k hk => .inl hk)
          · rw [List.length_append, ← HRN.out]; rfl
          · exact own_fr (own_fr O7.out F8.out (fun k hk => (A7n k hk).2)) (Fr.of_below (M := NoB) b89.out) (fun _ _ e => e)
          · rcases (A7n k hk).1 with h | h
            · exact ⟨.inl h, (A7n k hk).2⟩
            · exact ⟨.inr ⟨by omega, h.2⟩, (A7n k hk).2⟩
          · refine RowsAt.append ?_ rows cs (RowsAt.mono (fun k hk => .inl hk) rows cs (RowsAt.fr f9 DOLD rows cs RR.out))
            have keep : ∀ {X : List UInt8} {AX : Option Addr} {nx cx bx : Nat} {wx : World}, wx.ownsRow bx 5 1 (.slice AX nx cx) nx (bs X) → Below wr.heap.size wr wx → w2.heap.size ≤ bx → wx.heap.size ≤ w4.heap.size → Below wx.heap.size wx w4 → SlV w9 (fun k => D k ∨ (w2.heap.size ≤ k ∧ k < w4.heap.size)) (.slice AX nx cx) X := fun {X AX nx cx bx wx} ho hbx hb2 hz hb4 => by
              have s1 := (Sl.of_own ho).belF hb4 (fun k hk => hk.2.1)
              have s2 := s1.belF h45.out (fun k hk => Nat.lt_of_lt_of_le hk.2.1 hz)
              have hz5 : w4.heap.size ≤ (w4.alloc (.cells CL.toArray 64)).heap.size := h45.out.size
              have s3 := s2.fr F7.out (fun k hk => ⟨by have := hk.2.1; omega, fun e => OLD k (by have := hk.1; omega) (.inr e)⟩)
              have s4 := s3.fr F8.out (fun k hk => ⟨by have := hk.2.1; have := Z47.out; omega, fun e => OLD k (by have := hk.1; omega) (.inl e)⟩)
              have s5 := s4.belF b89.out (fun k hk => by have := hk.2.1; omega)
              exact ⟨AX, nx, cx, rfl, s5.mono (fun k hk => .inr ⟨by have := hk.1; omega, by have := hk.2.1; omega⟩)⟩
            refine ⟨Hk.out, Hn.out, by show head.length ≤ _; omega, by show plain.length ≤ _; omega, by show OUT.length ≤ _; omega, .slice A3 hn1 c3, .slice A4 pn c4, .slice A2 (16 + pn) c2, HCL.out.symm, ?_, ?_, ?_⟩
            · exact keep P3.out b4.out zb2.2.2.1 (Nat.le_refl _) (Below.refl _ _)
            · exact keep O4.out b4.out (Nat.le_trans zb2.2.2.1 zb2.2.2.2) (Nat.le_refl _) (Below.refl _ _)
            · exact keep (own_fr O2.out (Fr.of_below (M := NoB) b4.out) (fun _ _ e => e)) b4.out (Nat.le_refl _) (Nat.le_refl _) (Below.refl _ _)
          · rcases hj with hj | hj
            · exact .inl hj
            · exact .inr (by omega)
          · intro e
            have h1 := (O9.out.lt j hj).1
            rcases e with e | e
            · have := H1.out j e; omega
            · omega
          · refine ((Fr.of_below (M := F) BW.out).trans FR.out (fun i hi e => ?_)).trans f9 (fun i hi e => ?_)
            · rcases e with e | e
              · rw [e]; exact HFb.out
              · omega
            · rcases e with e | e
              · rw [e]; exact HFb.out
              · exact (OWNR.out i e.symm).2
end Go.Proofs.Ytnejcciociinmaa
