/-
  The reference's Bent: the walk.
-/
import Derived.Test.YteehjciepccomaaRBentP
import Derived.Test.YteehjciepccomaaMem2
import Derived.Deep.CutBlock
namespace Go.Proofs.Yteehjciepccomaa
open Go.RowKit
set_option maxRecDepth 100000
set_option maxHeartbeats 20000000

theorem ints_fresh (w : World) (x : Int) (c : Nat) : Ints (w.alloc (.cells #[.int .i64 x] 3)).heap.size (w.alloc (.cells #[.int .i64 x] 3)) (.slice (some ⟨w.heap.size, 0, none⟩) 1 c) [x] :=
  Ints.of rfl fun j z hz => by
    have hj := (List.getElem?_eq_some_iff.1 hz).1
    obtain rfl : j = 0 := by simpa using hj
    obtain rfl : x = z := by simpa using hz
    exact ⟨w.heap.size, 0, rfl, by rw [World.size_alloc]; omega, (Blk.new w 3 [.int .i64 x]).cell 0⟩

theorem bent_any {n₀ : Nat} (a : Option Addr) (c : Nat) (l : List Pc) (how n at_ : Int) (w : World) (hI : PcsAt n₀ w a l) (hn : n₀ ≤ w.heap.size) (hl : l.length ≤ 10) (hok : ∀ p ∈ l, PcOk p)
    (w1 : (Lit.int .i64 how).wf = true) (w3 : (Lit.int .i64 at_).wf = true) :
    Calls Try.prog 13 #[.slice a l.length c, .int .i64 how, .int .i64 n, .int .i64 at_] w fun e w' => ∃ (A : Option Addr) (len cap : Nat) (l' : List Pc), e = .returned (.slice A len cap) ∧ l'.length = len ∧ len ≤ 10 ∧ len ≤ cap ∧ PcsAt w'.heap.size w' A l' ∧ Upd [] w w' := by
  obtain ⟨len, hlen⟩ : ∃ len, l.length = len := ⟨_, rfl⟩
  rw [hlen] at hl ⊢
  have HZ := hide hlen
  have HI := hide hI
  have HOK := hide hok
  have W1 := hide w1
  have W3 := hide w3
  clear hI hok hlen w1 w3
  go_enter Try.func13, Try.ntmps13
  go_wp2_with fail
  go_loopw [9, 10] (fun s9 s10 wr => ∃ (k : Nat) (A : Option Addr) (cap : Nat) (es : List (Value × Pc)), k ≤ len ∧ s10 = .int .i64 k ∧ s9 = .slice A k cap ∧ Hid (es.length = k) ∧ Hid (EntOwn wr w.heap.size es) ∧ Hid (Dis es) ∧ Hid (wr.ownsRow w.heap.size 50 3 (.slice A k cap) k (entCells es)) ∧ Hid (Upd [] w wr)) (fun _ k _ => len - (intOf k).toNat)
  case atStart => exact ⟨0, none, 0, [], Nat.zero_le _, rfl, rfl, rfl, fun e he => (by simp at he), fun i j e f h => (by simp at h), World.ownsRow_nil _ _ _ _, Upd.refl _ _⟩
  case round =>
    obtain ⟨k, A, cap, es, hk, rfl, rfl, hes, hE, hD, hrow, hu⟩ := hrel
    obtain ⟨wo, rfl⟩ : ∃ wo : World, wo = wr := ⟨_, rfl⟩
    by_cases hkn : k < len
    · obtain ⟨p, hp⟩ : ∃ p, l[k]? = some p := ⟨_, List.getElem?_eq_getElem (by have := HZ.out; omega)⟩
      obtain ⟨b, o, pa, pn, pc, ea, hb, hIA, hpm, k0, k1, k2⟩ := (HI.out.upd hu.out hn (by simp)) k p hp
      subst ea
      have hpk := HOK.out p (List.mem_of_getElem? hp)
      have HPK := hide hpk
      have hpn := hIA.form.1
      have hpn8 : pn ≤ 8 := by have := hpk.1.2; omega
      have HPN := hide hpn
      obtain ⟨pb, po, eb, hpb, hpc⟩ := hIA.form.2 0 _ (List.getElem?_eq_getElem (show 0 < p.lens.length from hpk.1.1))
      subst eb
      have hki : (k : Int) < len := by omega
      have L1 := Blk.new wo 50 [.slice (some ⟨pb, po, none⟩) pn pc, .int .i64 p.want, .int .i64 p.join]
      have x0 := L1.cell 0
      have x1 := L1.cell 1
      have x2 := L1.cell 2
      have U1 := (Upd.refl [] wo).alloc (.cells #[.slice (some ⟨pb, po, none⟩) pn pc, .int .i64 p.want, .int .i64 p.join] 50)
      have HU1 := hide U1
      obtain ⟨wa, hwa⟩ : ∃ wa, wo.alloc (.cells #[.slice (some ⟨pb, po, none⟩) pn pc, .int .i64 p.want, .int .i64 p.join] 50) = wa := ⟨_, rfl⟩
      rw [hwa] at L1 x0 x1 x2 U1 HU1
      have HSW := hide (show w.heap.size ≤ wo.heap.size from hu.out.size)
      have HSA := hide (show wa.heap.size = wo.heap.size + 1 by rw [← hwa, World.size_alloc])
      have HL1 := hide L1
      have L2 := L1.alloc (.cells #[] 3)
      have y0 := L2.cell 0
      have hIB : Ints n₀ (wa.alloc (.cells #[] 3)) (.slice (some ⟨pb, po, none⟩) pn pc) p.lens := (hIA.upd U1 (Nat.le_trans hn hu.out.size) (by simp)).upd ((Upd.refl [] wa).alloc _) (Nat.le_trans (Nat.le_trans hn hu.out.size) U1.size) (by simp)
      have O1 := hide (show (wa.alloc (.cells #[] 3)).ownsRow wo.heap.size 3 1 (.slice (some ⟨wo.heap.size + 1, 0, none⟩) 0 0) 0 [] by rw [← HSA.out]; exact own_empty wo.heap.size wa 3 (by have := HSA.out; omega))
      have O5 := hide (show (p.lens.map (Value.int .i64)).length = pn * 1 by rw [List.length_map, Nat.mul_one]; exact hpn.symm)
      have O2 := hide (show ((some ⟨pb, po, none⟩ : Option Addr) = none ∧ pn = 0) ∨ ∃ ad, (some ⟨pb, po, none⟩ : Option Addr) = some ad ∧ ∀ j u, (p.lens.map (Value.int .i64))[j]? = some u → (wa.alloc (.cells #[] 3)).cell? (ad.add j) = some u from .inr ⟨⟨pb, po, none⟩, rfl, fun j u hj => by
        rw [List.getElem?_map] at hj
        obtain ⟨z, hz, rfl⟩ := Option.map_eq_some_iff.1 hj
        obtain ⟨b2, o2, e2, _, h3⟩ := hIB.form.2 j z hz
        obtain ⟨rfl, rfl⟩ : pb = b2 ∧ po = o2 := by simpa using e2
        rw [plain_add rfl]
        exact h3⟩)
      have O6 := hide (show ∀ u ∈ p.lens.map (Value.int .i64), u.oneCell' = true by intro u hu; obtain ⟨z, _, rfl⟩ := List.mem_map.1 hu; rfl)
      have O3 := hide (show 0 + pn ≤ maxLen by unfold maxLen; omega)
      have O4 := hide (show (0 + pn) * 8 ≤ 140737488355328 by omega)
      have HRW := hide (own_kept hrow.out HU1.out (by simp))
      have HEW := hide (hE.out.upd HU1.out (by simp))
      clear hpc hp hb hIA hpm hpn L1 U1 L2 hIB hpb hpk
      subst hwa
      go_upto_region 7 with (at_builtin; refine wpList_append_src rfl (.tmp 23) (.tmp 25) _ rfl wo.heap.size 3 _ 1 8 Try.underlying24 info_int rfl (by decide) (some ⟨wo.heap.size + 1, 0, none⟩) 0 0 [] rfl O1.out (some ⟨pb, po, none⟩) pn pc (p.lens.map (Value.int .i64)) rfl O5.out O2.out O6.out O3.out O4.out (by simp; omega) ?_; intro A7 c7 w7 h7 u7 a7; have H7 := hide h7; have U7 := hide u7; have q0 := (HL1.out.alloc (.cells #[] 3)).upd u7 (by simp); have q1 := q0.cell 0; have q2 := q0.frozen 0; have Q0 := hide q0; clear h7 u7 a7 q0)
      have h7 := H7.out
      simp only [Nat.zero_add, List.nil_append] at h7
      have UA := (((Upd.refl [] wo).alloc (.cells #[.slice (some ⟨pb, po, none⟩) pn pc, .int .i64 p.want, .int .i64 p.join] 50)).alloc (.cells #[] 3)).trans U7.out (by simp)
      have UA8 := UA.setCell (p := ⟨wo.heap.size, 0, none⟩) (.inr (Nat.le_refl _)) (.slice A7 pn c7)
      have Q8 := Q0.out.set_ 0 (.slice A7 pn c7)
      have US := (Upd.refl [wo.heap.size] w7).setCell (p := ⟨wo.heap.size, 0, none⟩) (.inl (by simp)) (.slice A7 pn c7)
      have LEN8 := own_kept h7 US (fun q hq hm => own_blk_ne h7 Q0.out (by decide) q hq (by simpa using hm))
      obtain ⟨w8, hw8⟩ : ∃ w8, w7.setCell ⟨wo.heap.size, 0, none⟩ (.slice A7 pn c7) = w8 := ⟨_, rfl⟩
      rw [hw8] at UA8 Q8 LEN8 ⊢
      have z0 := Q8.cell 0
      have z1 := Q8.cell 1
      have z2 := Q8.cell 2
      have HGB := hide (show ∃ g7, (Value.slice A7 pn c7).ownBlock = some g7 ∧ wo.heap.size ≤ g7 from by
        obtain ⟨g7, _, rfl, hg8, _⟩ := own_open1 LEN8 (by have := HPN.out; have := HPK.out.1.1; omega)
        exact ⟨g7, rfl, hg8⟩)
      have HLEN8 := hide (own_less LEN8 HSW.out)
      have HUA8 := hide UA8
      have HENT8 := hide (hE.out.upd UA8 (by simp))
      have ROW8 := own_kept hrow.out UA8 (by simp)
      have HROW8 := hide ROW8
      have OB := hide (ROW8.alloc (.cells #[.slice A7 pn c7, .int .i64 p.want, .int .i64 p.join] 50))
      have P1 := hide (show ∀ u ∈ [Value.slice A7 pn c7, .int .i64 p.want, .int .i64 p.join], u.oneCell' = true by intro u hu; simp at hu; rcases hu with rfl | rfl | rfl <;> rfl)
      have P3 := hide (show k + 1 ≤ maxLen by unfold maxLen; omega)
      have P4 := hide (show (k + 1) * 40 ≤ 140737488355328 by omega)
      have PS := hide (show w.heap.size ≤ (w8.alloc (.cells #[.slice A7 pn c7, .int .i64 p.want, .int .i64 p.join] 50)).heap.size by rw [World.size_alloc]; have := UA8.size; have := HSW.out; omega)
      have HRA := hide (show ∀ g ∈ (A.map (·.block)).toList, w.heap.size ≤ g from fun g hg => (row_lt hrow.out g (by rw [ownBlock_slice]; simpa using hg)).1)
      clear h7 UA UA8 Q8 US LEN8 hw8 ROW8 q1 q2 x0 x1 x2 y0
      go_wp2_with (at_builtin; refine wpList_append_base rfl (.tmp 28) (.tmp 30) _ rfl w.heap.size 50 _ 3 40 Try.underlying22 info_piece rfl (by decide) A k cap (entCells es) rfl OB.out ⟨w8.heap.size, 0, none⟩ 1 1 [.slice A7 pn c7, .int .i64 p.want, .int .i64 p.join] rfl rfl (cell_three_new _ _ _ _ _) P1.out P3.out P4.out PS.out ?_; intro A5 c5 w9 h9 u9 a9; have H9 := hide h9; have U9 := hide u9; clear h9 u9 a9)
      have UB := hide ((Upd.refl [] w8).alloc (.cells #[.slice A7 pn c7, .int .i64 p.want, .int .i64 p.join] 50))
      have V1 := hide (show Upd [] w w9 from ((hu.out.trans HUA8.out (by simp)).trans UB.out (by simp)).trans U9.out (fun g hg => .inr (HRA.out g hg)))
      have E8 := hide (EntOwn.snoc (e := (Value.slice A7 pn c7, p)) HENT8.out (pa := A7) (pc := c7) (by show Value.slice A7 pn c7 = .slice A7 p.lens.length c7; rw [HPN.out]) (by
        show w8.ownsRow w.heap.size 3 1 (.slice A7 p.lens.length c7) p.lens.length (p.lens.map (Value.int .i64))
        rw [← HPN.out]
        exact HLEN8.out) HPK.out)
      have HG7 := hide (show ∃ g7, (Value.slice A7 pn c7).ownBlock = some g7 ∧ wo.heap.size ≤ g7 from HGB.out)
      obtain ⟨g7, hg7, hg8⟩ := HG7.out
      have D9 := hide (hD.out.snoc hE.out (e := (Value.slice A7 pn c7, p)) hg7 hg8)
      have E9 := hide ((E8.out.upd UB.out (by simp)).app OB.out U9.out)
      have R9 := hide (show w9.ownsRow w.heap.size 50 3 (.slice A5 (k + 1) c5) (k + 1) (entCells (es ++ [(Value.slice A7 pn c7, p)])) by rw [entCells_snoc]; exact H9.out)
      go_wp2_with fail
      go_roundw
      case rel => exact ⟨k + 1, A5, c5, es ++ [(Value.slice A7 pn c7, p)], by omega, by go_num, rfl, hide (by rw [List.length_append, hes.out]; rfl), E9, D9, R9, V1⟩
      case measure => simp [intOf] <;> omega
    · obtain rfl : k = len := by omega
      have hki : ¬ (k : Int) < k := by omega
      rcases Nat.eq_zero_or_pos k with h0 | h0
      · subst h0
        have L1 := Blk.new wo 3 [.int .i64 n]
        have L2 := Blk.new (wo.alloc (.cells #[.int .i64 n] 3)) 50 [.slice (some ⟨wo.heap.size, 0, none⟩) 1 1, .int .i64 n, .int .i64 n]
        have HL2 := hide L2
        have I2 := hide ((ints_fresh wo n 1).upd ((Upd.refl [] _).alloc (.cells #[.slice (some ⟨wo.heap.size, 0, none⟩) 1 1, .int .i64 n, .int .i64 n] 50)) (Nat.le_refl _) (by simp))
        have V1 := hide ((hu.out.alloc (.cells #[.int .i64 n] 3)).alloc (.cells #[.slice (some ⟨wo.heap.size, 0, none⟩) 1 1, .int .i64 n, .int .i64 n] 50))
        clear L1 L2
        go_wp2_with fail
        go_ret
        refine ⟨some ⟨wo.heap.size + 1, 0, none⟩, 1, 1, rfl, [⟨[n], n, n⟩], rfl, by omega, by omega, ?_, V1.out⟩
        have h2 := HL2.out
        rw [World.size_alloc] at h2
        exact ent_pcs (es := [(.slice (some ⟨wo.heap.size, 0, none⟩) 1 1, ⟨[n], n, n⟩)]) (r := []) h2 (fun e he => by
          obtain rfl : e = _ := by simpa using he
          exact ⟨_, _, _, rfl, I2.out.mono ((Upd.refl [] _).alloc _).size, by show 1 ≤ maxLen; unfold maxLen; omega⟩) h2.lt
      · obtain ⟨y, hy⟩ : ∃ y : Nat, pickN at_ (k : Int) = (y : Int) := ⟨(pickN at_ (k : Int)).toNat, by have := pickN_lt at_ (n := (k : Int)) (by omega); omega⟩
        have hyk : y < k := by have := pickN_lt at_ (n := (k : Int)) (by omega); omega
        have PA := fun W => rpick_any at_ (k : Int) W W3.out (by omega) (by omega)
        simp only [hy] at PA
        have HPA := hide PA
        obtain ⟨v, hv⟩ : ∃ v : Nat, pickN how 5 = (v : Int) := ⟨(pickN how 5).toNat, by have := pickN_lt how (n := 5) (by omega); omega⟩
        have hv5 : v < 5 := by have := pickN_lt how (n := 5) (by omega); omega
        have PB := fun W => rpick_any how 5 W W1.out (by omega) (by omega)
        simp only [hv] at PB
        have HPB := hide PB
        obtain ⟨g, r, rfl, hgb, hblk, hcap⟩ := own_open3 hrow.out h0
        obtain ⟨e, he⟩ : ∃ e, es[y]? = some e := ⟨_, List.getElem?_eq_getElem (by have := hes.out; omega)⟩
        obtain ⟨pa, pc, q1, q2, q3⟩ := hE.out e (List.mem_of_getElem? he)
        obtain ⟨ge, re, rfl, hge, hbe, hce⟩ := own_open1 q2 (by have := q3.1.1; omega)
        obtain ⟨pn, hpn⟩ : ∃ pn, e.2.lens.length = pn := ⟨_, rfl⟩
        rw [hpn] at q1 q2 hce
        have hpn8 : 1 ≤ pn ∧ pn ≤ 8 := by have := q3.1; omega
        obtain ⟨hpn1, hpn2⟩ := hpn8
        have hlt : ∀ t, t < 3 → y * 3 + t < (entCells es ++ r).length := fun t ht => by rw [List.length_append, entCells_length]; have := hes.out; omega
        have cy : ∀ t, t < 3 → wo.cell? ⟨g, y * 3 + t, none⟩ = [e.1, Value.int .i64 e.2.want, .int .i64 e.2.join][t]? := fun t ht => by
          rw [hblk.cell, List.getElem?_append_left (by rw [entCells_length]; have := hes.out; omega), entCells_at es y e t he ht]
        have c0 := cy 0 (by omega)
        have c1 := cy 1 (by omega)
        have c2 := cy 2 (by omega)
        have f0 := hblk.frozen (y * 3 + 0)
        have f1 := hblk.frozen (y * 3 + 1)
        have f2 := hblk.frozen (y * 3 + 2)
        simp only [Nat.add_zero] at c0 f0
        have c0' : wo.cell? ⟨g, y * 3, none⟩ = some (.slice (some ⟨ge, 0, none⟩) pn pc) := by rw [c0, ← q1]; rfl
        have HBLK := hide hblk
        have HES := hide he
        have HQ1 := hide q1
        have HQ2 := hide q2
        have HQ3 := hide q3
        have HPN := hide hpn
        have HBE := hide hbe
        have HENT := hide hE.out.ent
        have hki0 : ((k : Int) == 0) = false := by simp; omega
        have hyi : (y : Int) < k := by omega
        clear hy PA hv PB he q1 q2 q3 hpn hblk hbe cy hlt c0
        rcases (show v = 0 ∨ v = 1 ∨ v = 2 ∨ v = 3 ∨ v = 4 by omega) with rfl | rfl | rfl | rfl | rfl
        · go_wp2_with fail
          refine (HPA.out _).mono ?_
          rintro e1 w' ⟨rfl, rfl⟩
          go_wp2_with fail
          refine (HPB.out _).mono ?_
          rintro e1 w' ⟨rfl, rfl⟩
          go_wp2_with fail
          go_ret
          have US := (Upd.refl [g] wo).setCell (p := ⟨g, y * 3 + 1, none⟩) (.inl (by simp)) (.int .i64 n)
          have hb2 := HBLK.out.set_ (y * 3 + 1) (.int .i64 n)
          rw [entCells_set es y e ((e.1, ({ e.2 with want := n } : Pc))) r 1 (.int .i64 n) HES.out (by omega) rfl] at hb2
          have hE2 := (hE.out.upd US (fun x hx => by obtain rfl := List.mem_singleton.1 hx; exact .inr ⟨_, _, HBLK.out, by decide⟩)).ent
          exact ⟨some ⟨g, 0, none⟩, k, cap, (es.set y ((e.1, ({ e.2 with want := n } : Pc)))).map (·.2), rfl, by rw [List.length_map, List.length_set]; exact hes.out, by omega, hcap, ent_pcs hb2 (hE2.set y (f := (e.1, ({ e.2 with want := n } : Pc))) HQ1.out (by have := (hE.out.upd US (fun x hx => by obtain rfl := List.mem_singleton.1 hx; exact .inr ⟨_, _, HBLK.out, by decide⟩)).ent e (List.mem_of_getElem? HES.out); obtain ⟨pa3, pn3, pc3, j1, j2, _⟩ := this; rw [← j1, HQ1.out] at j2; exact j2) (by have := HQ3.out.1.2; show e.2.lens.length ≤ maxLen; unfold maxLen; omega)) hb2.lt, hu.out.setCell (p := ⟨g, y * 3 + 1, none⟩) (.inr hgb) _⟩
        · go_wp2_with fail
          refine (HPA.out _).mono ?_
          rintro e1 w' ⟨rfl, rfl⟩
          go_wp2_with fail
          refine (HPB.out _).mono ?_
          rintro e1 w' ⟨rfl, rfl⟩
          go_wp2_with fail
          go_ret
          have US := (Upd.refl [g] wo).setCell (p := ⟨g, y * 3 + 2, none⟩) (.inl (by simp)) (.int .i64 n)
          have hb2 := HBLK.out.set_ (y * 3 + 2) (.int .i64 n)
          rw [entCells_set es y e ((e.1, ({ e.2 with join := n } : Pc))) r 2 (.int .i64 n) HES.out (by omega) rfl] at hb2
          have hE2 := (hE.out.upd US (fun x hx => by obtain rfl := List.mem_singleton.1 hx; exact .inr ⟨_, _, HBLK.out, by decide⟩)).ent
          exact ⟨some ⟨g, 0, none⟩, k, cap, (es.set y ((e.1, ({ e.2 with join := n } : Pc)))).map (·.2), rfl, by rw [List.length_map, List.length_set]; exact hes.out, by omega, hcap, ent_pcs hb2 (hE2.set y (f := (e.1, ({ e.2 with join := n } : Pc))) HQ1.out (by have := (hE.out.upd US (fun x hx => by obtain rfl := List.mem_singleton.1 hx; exact .inr ⟨_, _, HBLK.out, by decide⟩)).ent e (List.mem_of_getElem? HES.out); obtain ⟨pa3, pn3, pc3, j1, j2, _⟩ := this; rw [← j1, HQ1.out] at j2; exact j2) (by have := HQ3.out.1.2; show e.2.lens.length ≤ maxLen; unfold maxLen; omega)) hb2.lt, hu.out.setCell (p := ⟨g, y * 3 + 2, none⟩) (.inr hgb) _⟩
        · obtain ⟨hd1, hd2⟩ := tdiv_in W3.out (a := 7) (by omega)
          obtain ⟨j, hj⟩ : ∃ j : Nat, pickN (at_.tdiv 7) (pn : Int) = (j : Int) := ⟨(pickN (at_.tdiv 7) (pn : Int)).toNat, by have := pickN_lt (at_.tdiv 7) (n := (pn : Int)) (by omega); omega⟩
          have hjp : j < pn := by have := pickN_lt (at_.tdiv 7) (n := (pn : Int)) (by omega); omega
          have PD := fun W => rpick_any (at_.tdiv 7) (pn : Int) W hd2 (by omega) (by omega)
          simp only [hj] at PD
          have HPD := hide PD
          have hji : (j : Int) < pn := by omega
          have hjl : j < (e.2.lens.map (Value.int .i64) ++ re).length := by rw [List.length_append, List.length_map]; have := HPN.out; omega
          obtain ⟨vj, hvj⟩ : ∃ vj, (e.2.lens.map (Value.int .i64) ++ re)[j]? = some vj := ⟨_, List.getElem?_eq_getElem hjl⟩
          have ce := (HBE.out.cell j).trans hvj
          have fe := HBE.out.frozen j
          have ce' : wo.drew.cell? ⟨ge, j, none⟩ = some vj := ce
          have fe' : wo.drew.frozen? ⟨ge, j, none⟩ = false := fe
          have HJL := hide hjl
          have c0'' : wo.drew.cell? ⟨g, y * 3, none⟩ = some (.slice (some ⟨ge, 0, none⟩) pn pc) := c0'
          have HNE := hide (show ge ≠ g from HBE.out.ne_ HBLK.out (by decide))
          clear hd2 hj PD hjl hvj
          go_wp2_with fail
          refine (HPA.out _).mono ?_
          rintro e1 w' ⟨rfl, rfl⟩
          go_wp2_with fail
          refine (HPB.out _).mono ?_
          rintro e1 w' ⟨rfl, rfl⟩
          go_wp2_with fail
          refine wp_region_held_drew (S := (fun w' => w'.cell? ⟨g, y * 3, none⟩ = some (.slice (some ⟨ge, 0, none⟩) pn pc))) (by kernel_rfl) (by exact c0') (fun hHeld => ?_)
          refine wpAnyH_take (i := 0) (oi := ?oi0T2) (v := ?v0T2) ?oi0_0T2 (by kernel_rfl) ?ff0T2 ?rr0T2 ?hq0T2 (Or.inl ⟨?hw0T2, ?hy0T2⟩) (by assumption) ?rest0T2
          case oi0_0T2 =>
            conv =>
              lhs
              whnf
              arg 1
              whnf
          case hq0T2 => exact fun _ _ _ h => h
          case ff0T2 => kernel_rfl
          case rr0T2 => kernel_rfl
          case hw0T2 => rfl
          case hy0T2 =>
            intro w hSw
            (try dsimp only at hSw)
            first
            | (go_simp; done)
            | (go_simp; with_reducible rfl)
          try simp only [Act.put, List.setIfInBounds_toArray, List.set_cons_zero, List.set_cons_succ]
          refine wpAnyH_take (i := 1) (oi := ?oi1T2) (v := ?v1T2) ?oi0_1T2 (by kernel_rfl) ?ff1T2 ?rr1T2 ?hq1T2 (Or.inl ⟨?hw1T2, ?hy1T2⟩) (by assumption) ?rest1T2
          case oi0_1T2 =>
            conv =>
              lhs
              whnf
              arg 1
              whnf
          case hq1T2 => exact fun _ _ _ h => h
          case ff1T2 => kernel_rfl
          case rr1T2 => kernel_rfl
          case hw1T2 => rfl
          case hy1T2 =>
            intro w hSw
            (try dsimp only at hSw)
            first
            | (go_simp; done)
            | (go_simp; with_reducible rfl)
          try simp only [Act.put, List.setIfInBounds_toArray, List.set_cons_zero, List.set_cons_succ]
          refine wpAnyH_take (i := 2) (oi := ?oi2T2) (v := ?v2T2) ?oi0_2T2 (by kernel_rfl) ?ff2T2 ?rr2T2 ?hq2T2 (Or.inl ⟨?hw2T2, ?hy2T2⟩) (by assumption) ?rest2T2
          case oi0_2T2 =>
            conv =>
              lhs
              whnf
              arg 1
              whnf
          case hq2T2 => exact fun _ _ _ h => h
          case ff2T2 => kernel_rfl
          case rr2T2 => kernel_rfl
          case hw2T2 => rfl
          case hy2T2 =>
            intro w hSw
            (try dsimp only at hSw)
            first
            | (go_simp; done)
            | (go_simp; with_reducible rfl)
          try simp only [Act.put, List.setIfInBounds_toArray, List.set_cons_zero, List.set_cons_succ]
          refine wpAnyH_take (i := 3) (oi := ?oi3T2) (v := ?v3T2) ?oi0_3T2 (by kernel_rfl) ?ff3T2 ?rr3T2 ?hq3T2 (Or.inl ⟨?hw3T2, ?hy3T2⟩) (by assumption) ?rest3T2
          case oi0_3T2 =>
            conv =>
              lhs
              whnf
              arg 1
              whnf
          case hq3T2 => exact fun _ _ _ h => h
          case ff3T2 => kernel_rfl
          case rr3T2 => kernel_rfl
          case hw3T2 => rfl
          case hy3T2 =>
            intro w hSw
            (try dsimp only at hSw)
            first
            | (go_simp; done)
            | (go_simp; with_reducible rfl)
          try simp only [Act.put, List.setIfInBounds_toArray, List.set_cons_zero, List.set_cons_succ]
          refine wpAnyH_take (i := 4) (oi := ?oi4T2) (v := ?v4T2) ?oi0_4T2 (by kernel_rfl) ?ff4T2 ?rr4T2 ?hq4T2 (Or.inl ⟨?hw4T2, ?hy4T2⟩) (by assumption) ?rest4T2
          case oi0_4T2 =>
            conv =>
              lhs
              whnf
              arg 1
              whnf
          case hq4T2 => exact fun _ _ _ h => h
          case ff4T2 => kernel_rfl
          case rr4T2 => kernel_rfl
          case hw4T2 => rfl
          case hy4T2 =>
            intro w hSw
            (try dsimp only at hSw)
            first
            | (go_simp; done)
            | (go_simp; with_reducible rfl)
          try simp only [Act.put, List.setIfInBounds_toArray, List.set_cons_zero, List.set_cons_succ]
          refine wpAnyH_take (i := 5) (oi := ?oi5T2) (v := ?v5T2) ?oi0_5T2 (by kernel_rfl) ?ff5T2 ?rr5T2 ?hq5T2 (Or.inl ⟨?hw5T2, ?hy5T2⟩) (by assumption) ?rest5T2
          case oi0_5T2 =>
            conv =>
              lhs
              whnf
              arg 1
              whnf
          case hq5T2 => exact fun _ _ _ h => h
          case ff5T2 => kernel_rfl
          case rr5T2 => kernel_rfl
          case hw5T2 => rfl
          case hy5T2 =>
            intro w hSw
            (try dsimp only at hSw)
            first
            | (go_simp; done)
            | (go_simp; with_reducible rfl)
          try simp only [Act.put, List.setIfInBounds_toArray, List.set_cons_zero, List.set_cons_succ]
          refine wpAnyH_take (i := 6) (oi := ?oi6T2) (v := ?v6T2) ?oi0_6T2 (by kernel_rfl) ?ff6T2 ?rr6T2 ?hq6T2 (Or.inl ⟨?hw6T2, ?hy6T2⟩) (by assumption) ?rest6T2
          case oi0_6T2 =>
            conv =>
              lhs
              whnf
              arg 1
              whnf
          case hq6T2 => exact fun _ _ _ h => h
          case ff6T2 => kernel_rfl
          case rr6T2 => kernel_rfl
          case hw6T2 => rfl
          case hy6T2 =>
            intro w hSw
            (try dsimp only at hSw)
            first
            | (go_simp; done)
            | (go_simp; with_reducible rfl)
          try simp only [Act.put, List.setIfInBounds_toArray, List.set_cons_zero, List.set_cons_succ]
          refine wpAnyH_take (i := 7) (oi := ?oi7T2) (v := ?v7T2) ?oi0_7T2 (by kernel_rfl) ?ff7T2 ?rr7T2 ?hq7T2 (Or.inl ⟨?hw7T2, ?hy7T2⟩) (by assumption) ?rest7T2
          case oi0_7T2 =>
            conv =>
              lhs
              whnf
              arg 1
              whnf
          case hq7T2 => exact fun _ _ _ h => h
          case ff7T2 => kernel_rfl
          case rr7T2 => kernel_rfl
          case hw7T2 => rfl
          case hy7T2 =>
            intro w hSw
            (try dsimp only at hSw)
            first
            | (go_simp; done)
            | (go_simp; with_reducible rfl)
          try simp only [Act.put, List.setIfInBounds_toArray, List.set_cons_zero, List.set_cons_succ]
          refine wpAnyH_take (i := 8) (oi := ?oi8T2) (v := ?v8T2) ?oi0_8T2 (by kernel_rfl) ?ff8T2 ?rr8T2 ?hq8T2 (Or.inl ⟨?hw8T2, ?hy8T2⟩) (by assumption) ?rest8T2
          case oi0_8T2 =>
            conv =>
              lhs
              whnf
              arg 1
              whnf
          case hq8T2 => exact fun _ _ _ h => h
          case ff8T2 => kernel_rfl
          case rr8T2 => kernel_rfl
          case hw8T2 => rfl
          case hy8T2 =>
            intro w hSw
            (try dsimp only at hSw)
            first
            | (go_simp; done)
            | (go_simp; with_reducible rfl)
          try simp only [Act.put, List.setIfInBounds_toArray, List.set_cons_zero, List.set_cons_succ]
          refine wpAnyH_take (i := 9) (oi := ?oi9T2) (v := ?v9T2) ?oi0_9T2 (by kernel_rfl) ?ff9T2 ?rr9T2 ?hq9T2 (Or.inl ⟨?hw9T2, ?hy9T2⟩) (by assumption) ?rest9T2
          case oi0_9T2 =>
            conv =>
              lhs
              whnf
              arg 1
              whnf
          case hq9T2 => exact fun _ _ _ h => h
          case ff9T2 => kernel_rfl
          case rr9T2 => kernel_rfl
          case hw9T2 => rfl
          case hy9T2 =>
            intro w hSw
            (try dsimp only at hSw)
            first
            | (go_simp; done)
            | (go_simp; with_reducible rfl)
          try simp only [Act.put, List.setIfInBounds_toArray, List.set_cons_zero, List.set_cons_succ]
          refine wpAnyH_take (i := 10) (oi := ?oi10T2) (v := ?v10T2) ?oi0_10T2 (by kernel_rfl) ?ff10T2 ?rr10T2 ?hq10T2 (Or.inl ⟨?hw10T2, ?hy10T2⟩) (by assumption) ?rest10T2
          case oi0_10T2 =>
            conv =>
              lhs
              whnf
              arg 1
              whnf
          case hq10T2 => exact fun _ _ _ h => h
          case ff10T2 => kernel_rfl
          case rr10T2 => kernel_rfl
          case hw10T2 => rfl
          case hy10T2 =>
            intro w hSw
            (try dsimp only at hSw)
            first
            | (go_simp; done)
            | (go_simp; with_reducible rfl)
          try simp only [Act.put, List.setIfInBounds_toArray, List.set_cons_zero, List.set_cons_succ]
          refine wpAnyH_take (i := 11) (oi := ?oi11T2) (v := ?v11T2) ?oi0_11T2 (by kernel_rfl) ?ff11T2 ?rr11T2 ?hq11T2 (Or.inl ⟨?hw11T2, ?hy11T2⟩) (by assumption) ?rest11T2
          case oi0_11T2 =>
            conv =>
              lhs
              whnf
              arg 1
              whnf
          case hq11T2 => exact fun _ _ _ h => h
          case ff11T2 => kernel_rfl
          case rr11T2 => kernel_rfl
          case hw11T2 => rfl
          case hy11T2 =>
            intro w hSw
            (try dsimp only at hSw)
            first
            | (go_simp; done)
            | (go_simp; with_reducible rfl)
          try simp only [Act.put, List.setIfInBounds_toArray, List.set_cons_zero, List.set_cons_succ]
          refine wpAnyH_take (i := 12) (oi := ?oi12T2) (v := ?v12T2) ?oi0_12T2 (by kernel_rfl) ?ff12T2 ?rr12T2 ?hq12T2 (Or.inl ⟨?hw12T2, ?hy12T2⟩) (by assumption) ?rest12T2
          case oi0_12T2 =>
            conv =>
              lhs
              whnf
              arg 1
              whnf
          case hq12T2 => exact fun _ _ _ h => h
          case ff12T2 => kernel_rfl
          case rr12T2 => kernel_rfl
          case hw12T2 => rfl
          case hy12T2 =>
            intro w hSw
            (try dsimp only at hSw)
            first
            | (go_simp; done)
            | (go_simp; with_reducible rfl)
          try simp only [Act.put, List.setIfInBounds_toArray, List.set_cons_zero, List.set_cons_succ]
          refine wpAnyH_take (i := 14) (oi := ?oi14T2) (v := ?v14T2) ?oi0_14T2 (by kernel_rfl) ?ff14T2 ?rr14T2 ?hq14T2 (Or.inl ⟨?hw14T2, ?hy14T2⟩) (by assumption) ?rest14T2
          case oi0_14T2 =>
            conv =>
              lhs
              whnf
              arg 1
              whnf
          case hq14T2 => exact fun _ _ _ h => h
          case ff14T2 => kernel_rfl
          case rr14T2 => kernel_rfl
          case hw14T2 => rfl
          case hy14T2 =>
            intro w hSw
            (try dsimp only at hSw)
            first
            | (go_simp; done)
            | (go_simp; with_reducible rfl)
          try simp only [Act.put, List.setIfInBounds_toArray, List.set_cons_zero, List.set_cons_succ]
          refine wpAnyH_ready (rs := [13]) (by kernel_rfl) (by simp) (AllReadyH.cons (o := ?oi13T2) ?oi0_13T2 (fun K hK => ?_) AllReadyH.nil)
          case oi0_13T2 =>
            conv =>
              lhs
              whnf
              arg 1
              whnf
          go_simp
          refine (HPD.out _).mono ?_
          rintro e1 w' ⟨rfl, rfl⟩
          (try dsimp only)
          refine hK.out _ _ (by assumption) (fun hHeld => ?_)
          clear hK K
          try simp only [Act.put, List.setIfInBounds_toArray, List.set_cons_zero, List.set_cons_succ]
          refine wpAnyH_take (i := 15) (oi := ?oi15T2) (v := ?v15T2) ?oi0_15T2 (by kernel_rfl) ?ff15T2 ?rr15T2 ?hq15T2 (Or.inl ⟨?hw15T2, ?hy15T2⟩) (by assumption) ?rest15T2
          case oi0_15T2 =>
            conv =>
              lhs
              whnf
              arg 1
              whnf
          case hq15T2 => exact fun _ _ _ h => h
          case ff15T2 => kernel_rfl
          case rr15T2 => kernel_rfl
          case hw15T2 => rfl
          case hy15T2 =>
            intro w hSw
            (try dsimp only at hSw)
            first
            | (go_simp; done)
            | (go_simp; with_reducible rfl)
          try simp only [Act.put, List.setIfInBounds_toArray, List.set_cons_zero, List.set_cons_succ]
          refine wpAnyH_ready (rs := [16]) (by kernel_rfl) (by simp) (AllReadyH.cons (o := ?oi16T2) ?oi0_16T2 (fun K hK => ?_) AllReadyH.nil)
          case oi0_16T2 =>
            conv =>
              lhs
              whnf
              arg 1
              whnf
          go_simp
          (try dsimp only)
          refine hK.out _ _ (by show (wo.setCell ⟨ge, j, none⟩ (.int .i64 n)).cell? ⟨g, y * 3, none⟩ = _; rw [World.cell?_setCell_far _ _ _ _ (by show ge ≠ g; exact HNE.out)]; exact c0') (fun hHeld => ?_)
          clear hK K
          try simp only [Act.put, List.setIfInBounds_toArray, List.set_cons_zero, List.set_cons_succ]
          refine wpAnyH_done (by kernel_rfl) ?_ _
          go_wp2_with fail
          go_ret
          obtain ⟨es', m1, m2, m3⟩ := HENT.out.write HBE.out HJL.out n
          have hb2 := (HBLK.out.far (p := ⟨ge, j, none⟩) (fun h => HNE.out h.symm) (.int .i64 n)).drew
          rw [← m2] at hb2
          have US := (hu.out.setCell (p := ⟨ge, j, none⟩) (.inr hge) (.int .i64 n)).drew
          have hsz := ((Upd.refl [ge] wo).setCell (p := ⟨ge, j, none⟩) (.inl (by simp)) (.int .i64 n)).size
          have m4 := m3.upd ((Upd.refl [] _).drew) hsz (by simp)
          exact ⟨some ⟨g, 0, none⟩, k, cap, es'.map (·.2), rfl, by rw [List.length_map, m1]; exact hes.out, by omega, hcap, ent_pcs hb2 (fun x hx => by obtain ⟨pa3, pn3, pc3, j1, j2, j3⟩ := m4 x hx; exact ⟨pa3, pn3, pc3, j1, j2.mono hsz, j3⟩) hb2.lt, US⟩
        · go_wp2_with fail
          refine (HPA.out _).mono ?_
          rintro e1 w' ⟨rfl, rfl⟩
          go_wp2_with fail
          refine (HPB.out _).mono ?_
          rintro e1 w' ⟨rfl, rfl⟩
          go_wp2_with fail
          go_ret
          have US := (Upd.refl [g] wo).setCell (p := ⟨g, y * 3 + 0, none⟩) (.inl (by simp)) (.slice none 0 0)
          have hb2 := HBLK.out.set_ (y * 3 + 0) (.slice none 0 0)
          rw [entCells_set es y e ((Value.slice none 0 0, ({ e.2 with lens := [] } : Pc))) r 0 (.slice none 0 0) HES.out (by omega) rfl] at hb2
          have hE2 := (hE.out.upd US (fun x hx => by obtain rfl := List.mem_singleton.1 hx; exact .inr ⟨_, _, HBLK.out, by decide⟩)).ent
          exact ⟨some ⟨g, 0, none⟩, k, cap, (es.set y ((Value.slice none 0 0, ({ e.2 with lens := [] } : Pc)))).map (·.2), rfl, by rw [List.length_map, List.length_set]; exact hes.out, by omega, hcap, ent_pcs hb2 (hE2.set y (f := (Value.slice none 0 0, ({ e.2 with lens := [] } : Pc))) rfl (.inl ⟨none, 0, rfl, rfl⟩) (Nat.zero_le _)) hb2.lt, hu.out.setCell (p := ⟨g, y * 3 + 0, none⟩) (.inr hgb) _⟩
        · have O1 := hide (show ∀ u ∈ [Value.int .i64 n], u.oneCell' = true by simp [Value.oneCell'])
          have O3 := hide (show pn + 1 ≤ maxLen by unfold maxLen; omega)
          have O4 := hide (show (pn + 1) * 8 ≤ 140737488355328 by omega)
          have OB := hide (HQ2.out.alloc (.cells #[.int .i64 n] 3))
          have OS := hide (show w.heap.size ≤ (wo.alloc (.cells #[.int .i64 n] 3)).heap.size by rw [World.size_alloc]; have := hu.out.size; omega)
          have HLK := hide (show (entCells es ++ r)[y * 3]? = some (.slice (some ⟨ge, 0, none⟩) pn pc) by rw [← HBLK.out.cell]; exact c0')
          have HNE := hide (show g ≠ ge from HBLK.out.ne_ HBE.out (by decide))
          have d0 := (HBLK.out.alloc (.cells #[.int .i64 n] 3)).cell (y * 3)
          rw [HLK.out] at d0
          go_wp2_with fail
          refine (HPA.out _).mono ?_
          rintro e1 w' ⟨rfl, rfl⟩
          go_wp2_with fail
          refine (HPB.out _).mono ?_
          rintro e1 w' ⟨rfl, rfl⟩
          go_wp2_with (at_builtin; refine wpList_append_base rfl (.tmp 53) (.tmp 55) _ rfl w.heap.size 3 _ 1 8 Try.underlying24 info_int rfl (by decide) (some ⟨ge, 0, none⟩) pn pc _ rfl OB.out ⟨wo.heap.size, 0, none⟩ 1 1 [.int .i64 n] rfl rfl (cell_one_new _ _ _) O1.out O3.out O4.out OS.out ?_; intro A5 c5 w9 h9 u9 a9; have qb := (HBLK.out.alloc (.cells #[.int .i64 n] 3)).upd u9 (by simpa using HNE.out); have s0 := (qb.cell (y * 3)).trans HLK.out; have s1 := qb.frozen (y * 3); have H9 := hide h9; have U9 := hide u9; have QB := hide qb; clear h9 u9 a9 qb)
          go_wp2_with fail
          go_ret
          have hb2 := QB.out.set_ (y * 3 + 0) (.slice A5 (pn + 1) c5)
          rw [entCells_set es y e (.slice A5 (pn + 1) c5, ({ e.2 with lens := e.2.lens ++ [n] } : Pc)) r 0 (.slice A5 (pn + 1) c5) HES.out (by omega) rfl] at hb2
          have V9 := (hu.out.alloc (.cells #[.int .i64 n] 3)).trans U9.out (fun x hx => .inr (by obtain rfl : x = ge := (by simpa using hx); exact hge))
          have h9 := H9.out
          have e9 : (e.2.lens.map (Value.int .i64) ++ [Value.int .i64 n]) = (e.2.lens ++ [n]).map (Value.int .i64) := by rw [List.map_append]; rfl
          have el : (e.2.lens ++ [n]).length = pn + 1 := by rw [List.length_append, HPN.out]; rfl
          rw [e9] at h9
          have u2 := ((Upd.refl [] wo).alloc (.cells #[.int .i64 n] 3)).mono (l' := [ge]) (by simp) |>.trans U9.out (fun x hx => .inl (by simpa using hx))
          have US := (Upd.refl [g] w9).setCell (p := ⟨g, y * 3 + 0, none⟩) (.inl (by simp)) (.slice A5 (pn + 1) c5)
          have EF := hE.out.but hD.out HES.out (f := (.slice A5 (pn + 1) c5, ({ e.2 with lens := e.2.lens ++ [n] } : Pc))) (ge := ge) (by rw [HQ1.out]; rfl) u2 QB.out (by decide) US (pa := A5) (pc := c5) (by show Value.slice A5 (pn + 1) c5 = .slice A5 (e.2.lens ++ [n]).length c5; rw [el]) (by show w9.ownsRow w.heap.size 3 1 (.slice A5 (e.2.lens ++ [n]).length c5) (e.2.lens ++ [n]).length ((e.2.lens ++ [n]).map (Value.int .i64)); rw [el]; exact h9) (by show (e.2.lens ++ [n]).length ≤ maxLen; rw [el]; unfold maxLen; omega)
          exact ⟨some ⟨g, 0, none⟩, k, cap, (es.set y (.slice A5 (pn + 1) c5, ({ e.2 with lens := e.2.lens ++ [n] } : Pc))).map (·.2), rfl, by rw [List.length_map, List.length_set]; exact hes.out, by omega, hcap, ent_pcs hb2 EF hb2.lt, V9.setCell (p := ⟨g, y * 3 + 0, none⟩) (.inr hgb) _⟩
end Go.Proofs.Yteehjciepccomaa
