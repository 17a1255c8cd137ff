/-
  The walk of the statement on a further length, and on a join that is dropped.
-/
import Derived.Test.YteehjciepccomaaFMoreP
import Derived.Deep.RegionHeld3
import Derived.Deep.RegionLaw
import Derived.Deep.CutBlock
namespace Go.Proofs.Yteehjciepccomaa
open Go.RowKit
set_option maxRecDepth 100000
set_option maxHeartbeats 20000000

theorem step_append_base {P : Program} {ops : Array Oper} {w : World} {o : Oper} {a : Act} {K : Act → World → Prop} {Q : Exit → Act → World → Prop} {E : Prop} (hgd : o.guard = none) (s x : Operand) (t : TypeId)
    (ho : o.op = .call { callee := .builtin .append, args := #[s, x], argTypes := #[t, t] })
    (base : Nat) (e : TypeId) (z : Value) (size bytes : Nat) (ht : P.underlying t = some (.slice e)) (hinfo : (P.info? e).map (fun i => (i.zero, i.size, i.bytes)) = some (some z, size, bytes)) (hzs : z.cells.size = size) (hsz : 0 < size)
    (A : Option Addr) (n c : Nat) (xs : List Value) (hs : a.eval s = .slice A n c) (hown : w.ownsRow base e size (.slice A n c) n xs)
    (ad : Addr) (m cc : Nat) (news : List Value) (hx : a.eval x = .slice (some ad) m cc) (hl : news.length = m * size) (hnews : ∀ j u, news[j]? = some u → w.cell? (ad.add j) = some u) (h1 : ∀ u ∈ news, u.oneCell' = true)
    (h63 : n + m ≤ maxLen) (hbytes : (n + m) * bytes ≤ 140737488355328) (hbase : base ≤ w.heap.size)
    (h : ∀ A' c' w', w'.ownsRow base e size (.slice A' (n + m) c') (n + m) (xs ++ news) → Upd (A.map (·.block)).toList w w' → K (a.put o.dst (.slice A' (n + m) c')) w') :
    if Region.wanted o (yielded ops a.tmps) = true then Oper.wp P o a w K Q else E := by
  have hw : Region.wanted o (yielded ops a.tmps) = true := by simp [Region.wanted, hgd]
  rw [if_pos hw]
  obtain ⟨i, hi, hz, hs1, hb1⟩ := info_parts hinfo
  obtain ⟨v', w', hr, h2, h3, _, h5⟩ := run_append_own_at (P := P) w base t o.type e i z size bytes ht hi hz hs1 hb1 hzs hsz _ n xs hown ad m cc news hl hnews h1 h63 hbytes hbase
  unfold Oper.wp execOp
  simp only [ho, resolve, invoke, builtin, Sem.run_bind, Sem.run_pure, Result.andThen_ok, List.map_toArray, List.map_cons, List.map_nil, hs, hx, hr]
  obtain ⟨A', c', rfl⟩ : ∃ A' c', v' = .slice A' (n + m) c' := by
    rcases h2.2 with ⟨hv, h0⟩ | ⟨g, cap, cur, hv, _⟩
    · exact ⟨none, 0, by rw [h0]; exact hv⟩
    · exact ⟨_, _, hv⟩
  rw [ownBlock_slice] at h3
  exact h _ _ w' h2 ((Upd.refl _ w).grown h3 (fun k hk => .inl (by rw [hk]; simp)))

/-- A copy of pieces of which one has a list of lengths of its own. -/
structure MoreAt (g kk : Nat) (cs : List Value) (w7 W : World) (A : Option Addr) (m c : Nat) (zs : List Int) : Prop where
  blk : Blk W g 50 (cs.set kk (.slice A m c))
  row : W.ownsRow w7.heap.size 3 1 (.slice A m c) m (zs.map (Value.int .i64))
  upd : Upd [g] w7 W
  len : zs.length = m
  gB : g < w7.heap.size
  kc : kk < cs.length
theorem MoreAt.drew {g kk : Nat} {cs : List Value} {w7 W : World} {A : Option Addr} {m c : Nat} {zs : List Int} (h : MoreAt g kk cs w7 W A m c zs) : MoreAt g kk cs w7 W.drew A m c zs :=
  ⟨h.blk.drew, h.row.drew, h.upd.drew, h.len, h.gB, h.kc⟩
theorem MoreAt.cell {g kk : Nat} {cs : List Value} {w7 W : World} {A : Option Addr} {m c : Nat} {zs : List Int} (h : MoreAt g kk cs w7 W A m c zs) : W.cell? ⟨g, kk, none⟩ = some (.slice A m c) := by
  rw [h.blk.cell, List.getElem?_set, if_pos rfl, if_pos h.kc]
theorem MoreAt.cellA {g kk : Nat} {cs : List Value} {w7 W : World} {A : Option Addr} {m c : Nat} {zs : List Int} (h : MoreAt g kk cs w7 W A m c zs) (o : Obj) : (W.alloc o).cell? ⟨g, kk, none⟩ = some (.slice A m c) := by
  rw [(h.blk.alloc o).cell, List.getElem?_set, if_pos rfl, if_pos h.kc]
theorem MoreAt.mid {g kk : Nat} {cs : List Value} {w7 W : World} {A : Option Addr} {m c : Nat} {zs : List Int} (h : MoreAt g kk cs w7 W A m c zs) {o : Obj} {w9 : World} (u : Upd (A.map (·.block)).toList (W.alloc o) w9) :
    Blk w9 g 50 (cs.set kk (.slice A m c)) ∧ w9.cell? ⟨g, kk, none⟩ = some (.slice A m c) ∧ w9.frozen? ⟨g, kk, none⟩ = false := by
  have hb := (h.blk.alloc o).upd u (fun hm => by have := (row_lt h.row g (by rw [ownBlock_slice]; simpa using hm)).1; have := h.gB; omega)
  exact ⟨hb, by rw [hb.cell, List.getElem?_set, if_pos rfl, if_pos h.kc], hb.frozen kk⟩
theorem MoreAt.app {g kk : Nat} {cs : List Value} {w7 W : World} {A : Option Addr} {m c : Nat} {zs : List Int} (h : MoreAt g kk cs w7 W A m c zs) {o : Obj} {w9 : World} (u : Upd (A.map (·.block)).toList (W.alloc o) w9) {A9 : Option Addr} {c9 : Nat} {y : Int}
    (hr : w9.ownsRow w7.heap.size 3 1 (.slice A9 (m + 1) c9) (m + 1) (zs.map (Value.int .i64) ++ [.int .i64 y])) : MoreAt g kk cs w7 (w9.setCell ⟨g, kk, none⟩ (.slice A9 (m + 1) c9)) A9 (m + 1) c9 (zs ++ [y]) := by
  have hb := (h.mid u).1
  have us := (Upd.refl [g] w9).setCell (p := ⟨g, kk, none⟩) (.inl (by simp)) (.slice A9 (m + 1) c9)
  have hge : ∀ x ∈ (A.map (·.block)).toList, w7.heap.size ≤ x := fun x hx => (row_lt h.row x (by rw [ownBlock_slice]; simpa using hx)).1
  refine ⟨?_, ?_, ?_, by rw [List.length_append, h.len]; rfl, h.gB, h.kc⟩
  · have := hb.set_ kk (.slice A9 (m + 1) c9)
    rwa [List.set_set] at this
  · rw [List.map_append]
    exact own_kept hr us (fun q hq => by have := (row_lt hr q hq).1; have := h.gB; simp; omega)
  · exact ((h.upd.alloc o).trans u (fun x hx => .inr (hge x hx))).setCell (.inl (by simp)) _
theorem MoreAt.from2 {g kk : Nat} {cs : List Value} {w2 w7 W : World} {A : Option Addr} {m c : Nat} {zs : List Int} (h : MoreAt g kk cs w7 W A m c zs) (hu : Upd [] w2 w7) (hg : w2.heap.size ≤ g) : Upd [] w2 W :=
  hu.trans h.upd (fun x hx => .inr (by simp only [List.mem_singleton] at hx; omega))
/-- The pieces with the new lengths. -/
theorem MoreAt.pcs {n₀ g k : Nat} {cs : List Value} {w7 W : World} {A : Option Addr} {m c : Nat} {zs : List Int} {l : List Pc} {p : Pc} (h : MoreAt g (k * 3) cs w7 W A m c zs) (hn : n₀ ≤ w7.heap.size) (hg0 : n₀ ≤ g) (hp : l[k]? = some p)
    (hca : ∀ i q, l[i]? = some q → ∃ pa pn pc, Ints n₀ w7 (.slice pa pn pc) q.lens ∧ q.lens.length ≤ maxLen ∧ cs[i * 3]? = some (.slice pa pn pc) ∧ cs[i * 3 + 1]? = some (.int .i64 q.want) ∧ cs[i * 3 + 2]? = some (.int .i64 q.join)) (hz : zs.length ≤ maxLen) :
    PcsAt W.heap.size W (some ⟨g, 0, none⟩) (l.set k { p with lens := zs }) := by
  intro i q hq
  have hg := h.blk.lt
  have hw := h.upd.size
  rw [List.getElem?_set] at hq
  by_cases e : k = i
  · subst e
    have hlt := (List.getElem?_eq_some_iff.1 hp).1
    rw [if_pos rfl, if_pos hlt] at hq
    obtain rfl : { p with lens := zs } = q := by simpa using hq
    obtain ⟨pa, pn, pc, h1, h2, h3, h4, h5⟩ := hca k p hp
    have hr := h.row
    rw [← h.len] at hr
    have hI := own_ints hr
    rw [h.len] at hI
    refine ⟨g, 0, A, m, c, rfl, hg, hI, hz, ?_, ?_, ?_⟩
    · rw [Nat.zero_add]; exact h.cell
    · rw [Nat.zero_add, h.blk.cell, List.getElem?_set, if_neg (by omega)]; exact h4
    · rw [Nat.zero_add, h.blk.cell, List.getElem?_set, if_neg (by omega)]; exact h5
  · rw [if_neg e] at hq
    obtain ⟨pa, pn, pc, h1, h2, h3, h4, h5⟩ := hca i q hq
    refine ⟨g, 0, pa, pn, pc, rfl, hg, (h1.upd h.upd hn (fun x hx => by simp only [List.mem_singleton] at hx; omega)).mono (by omega), h2, ?_, ?_, ?_⟩
    · rw [Nat.zero_add, h.blk.cell, List.getElem?_set, if_neg (by omega)]; exact h3
    · rw [Nat.zero_add, h.blk.cell, List.getElem?_set, if_neg (by omega)]; exact h4
    · rw [Nat.zero_add, h.blk.cell, List.getElem?_set, if_neg (by omega)]; exact h5

/-- A copy of pieces, opened. -/
theorem copy_open {n₀ : Nat} {w w7 : World} {b o len k c7 : Nat} {A7 : Option Addr} {l : List Pc} {p : Pc} (hP : PcsAt n₀ w (some ⟨b, o, none⟩) l) (hn : n₀ ≤ w.heap.size) (hlen : l.length = len) (h0 : 0 < len)
    (h7 : w7.ownsRow w.heap.size 50 3 (.slice A7 (0 + len) c7) (0 + len) ([] ++ newsOf w (some ⟨b, o, none⟩) len)) (u7 : Upd ((some ⟨w.heap.size, 0, none⟩ : Option Addr).map (·.block)).toList (w.alloc (.cells #[] 50)) w7) (hp : l[k]? = some p) :
    ∃ g cs pa pn pc, A7 = some ⟨g, 0, none⟩ ∧ w7.cell? ⟨g, k * 3, none⟩ = some (.slice pa pn pc) ∧ w7.cell? ⟨g, k * 3 + 2, none⟩ = some (.int .i64 p.join) ∧ w7.frozen? ⟨g, k * 3, none⟩ = false ∧ w7.frozen? ⟨g, k * 3 + 2, none⟩ = false ∧
      Hid (Blk w7 g 50 cs ∧ w.heap.size ≤ g ∧ Upd [] w w7 ∧ len ≤ c7 ∧ k * 3 < cs.length ∧ PcsIn n₀ w7 g l ∧ ∀ i q, l[i]? = some q → ∃ pa pn pc, Ints n₀ w7 (.slice pa pn pc) q.lens ∧ q.lens.length ≤ maxLen ∧ cs[i * 3]? = some (.slice pa pn pc) ∧ cs[i * 3 + 1]? = some (.int .i64 q.want) ∧ cs[i * 3 + 2]? = some (.int .i64 q.join)) := by
  simp only [Nat.zero_add, List.nil_append] at h7
  have ua := (Upd.refl [] w).alloc (.cells #[] 50)
  have UV : Upd [] w w7 := ua.trans (u7.mono (l' := [w.heap.size]) (by simp)) (by simp) |>.mono (by simp)
  obtain ⟨g, r, rfl, hg, hb, hcc⟩ := own_open3 h7 h0
  have hpi := copy_pcs hP UV hn hg (by rw [hlen]; exact hb)
  have hpi2 := hpi
  obtain ⟨cs, hcb, hng, hca⟩ := hpi
  obtain ⟨pa2, pn2, pc2, hq1, hq2, hc0, hc1, hc2⟩ := hca k p hp
  exact ⟨g, cs, pa2, pn2, pc2, rfl, (hcb.cell (k * 3)).trans hc0, (hcb.cell (k * 3 + 2)).trans hc2, hcb.frozen _, hcb.frozen _, hcb, hg, UV, hcc, (List.getElem?_eq_some_iff.1 hc0).1, hpi2, hca⟩

theorem fitMore_walk (a0 : Option Addr) (len0 cap0 : Nat) (z0 : List X4) (a1 a2 a3 : Int) (w : World) (w0 : X4Arg w a0 len0 cap0 z0) (w1 : (Lit.int .i64 a1).wf = true) (w2 : (Lit.int .i64 a2).wf = true) (w3 : (Lit.int .i64 a3).wf = true) :
    Calls Try.prog 8 #[.slice a0 len0 cap0, .int .i64 a1, .int .i64 a2, .int .i64 a3] w fun e w' => e = .returned (.bool true) ∧ Below w.heap.size w w' := by
  have X0 := hide w0
  have W1 := hide w1
  have W2 := hide w2
  have W3 := hide w3
  clear w0 w1 w2 w3
  go_enter Try.func8, Try.ntmps8
  go_wp2_with fail
  refine (sane_any w).mono ?_
  rintro e w1 ⟨rfl, u⟩
  have U0 := hide u
  clear u
  go_wp2_with fail
  refine (made_any7 a0 len0 cap0 z0 a1 w1 (X0.out.2.2.2.below (U0.out.toBelow (Nat.le_refl _) (by simp))) X0.out.1 (Nat.le_trans X0.out.2.1 X0.out.2.2.1) U0.out.size W1.out).mono ?_
  rintro e w2 ⟨b, len, cap, l, t, rfl, hl, hl10, hcap, hp, ⟨hV, h7⟩, _, u⟩
  have U1 := hide (U0.out.trans u (by simp))
  have HP := hide hp
  have HV := hide hV
  have H7 := hide h7
  have HM := hide (show l.length ≤ maxLen by unfold maxLen; omega)
  have HLEN := hide hl
  clear u hp hV hl hcap h7
  by_cases hlen0 : len = 0
  · subst hlen0
    go_wp2_with fail
    go_ret
    exact ⟨rfl, U1.out.toBelow (Nat.le_refl _) (by simp)⟩
  have hlen1 : 0 < len := by omega
  have hlen2 : ¬ (len : Int) = 0 := by omega
  obtain ⟨k, hk⟩ : ∃ k : Nat, pickN a2 (len : Int) = (k : Int) := ⟨(pickN a2 (len : Int)).toNat, by have := pickN_lt a2 (n := (len : Int)) (by omega); omega⟩
  have hkl : k < len := by have := pickN_lt a2 (n := (len : Int)) (by omega); omega
  have PK := fun W => pick_any a2 (len : Int) W W2.out (by omega) (by omega)
  simp only [hk] at PK
  have HPK := hide PK
  obtain ⟨n, hn⟩ : ∃ n, pickN a3 300 = n := ⟨_, rfl⟩
  have hnb := pickN_lt a3 (n := 300) (by omega)
  have PN := fun W => pick_any a3 300 W W3.out (by omega) (by omega)
  simp only [hn] at PN
  rw [hn] at hnb
  obtain ⟨hn1, hn2⟩ := hnb
  have HPN := hide PN
  have hki : (k : Int) < len := by omega
  clear hk PK hn PN
  obtain ⟨p, hp⟩ : ∃ p, l[k]? = some p := ⟨_, List.getElem?_eq_getElem (by have := HLEN.out; omega)⟩
  have HPP := hide hp
  have hok := HV.out.2.2 p (List.mem_of_getElem? hp)
  have HOK := hide hok
  obtain ⟨b', o, pa, pn, pc, eb, hb, hi, hpm, c0, hq3, hq4⟩ := HP.out k p hp
  subst eb
  have hpn := hi.form.1
  obtain ⟨j1, rfl⟩ : ∃ j, pn = j + 1 := ⟨pn - 1, by have := hok.1.1; omega⟩
  have hpn7 : j1 + 1 ≤ 7 := by have := H7.out p (List.mem_of_getElem? hp); omega
  obtain ⟨lb, lo, rfl, hq1, hq2⟩ := hi.form.2 0 _ (List.getElem?_eq_getElem (show 0 < p.lens.length by omega))
  have HLC := hide (show ∀ j z, p.lens[j]? = some z → w2.cell? ⟨lb, lo + j, none⟩ = some (.int .i64 z) from fun j z hz => by
    obtain ⟨b2, o2, e, _, h⟩ := hi.form.2 j z hz
    obtain ⟨rfl, rfl⟩ : lb = b2 ∧ lo = o2 := by simpa using e
    exact h)
  have HPN2 := hide hpn
  have C0 := hide c0
  have KEEP := hide (show ∀ (W : World) (ad : Addr) (v : Value), Upd [] w2 W → w2.cell? ad = some v → W.cell? ad = some v from fun W ad v hu hc => (hu.cell (World.block_lt_of_cell? _ _ hc) (by simp)).trans hc)
  clear hq1 hq2 hq3 hq4 hp hok hb hi hpm c0 hpn
  go_wp2_with fail
  refine (HPK.out _).mono ?_
  rintro e w' ⟨rfl, rfl⟩
  go_wp2_with fail
  refine (HPN.out _).mono ?_
  rintro e w' ⟨rfl, rfl⟩
  -- the copy
  have O1 := hide (own_empty3 w2.heap.size w2 (Nat.le_refl _))
  have O3 := hide (show 0 + len ≤ maxLen by unfold maxLen; omega)
  have O4 := hide (show (0 + len) * 40 ≤ 140737488355328 by omega)
  have O5 : Hid ((newsOf w2 (some ⟨b', o, none⟩) len).length = len * 3) := news_length
  have HL1 := hide hlen1
  have UA := hide ((Upd.refl [] w2).alloc (.cells #[] 50))
  have O2 : Hid (((some ⟨b', o, none⟩ : Option Addr) = none ∧ len = 0) ∨ ∃ ad, (some ⟨b', o, none⟩ : Option Addr) = some ad ∧ ∀ j u, (newsOf w2 (some ⟨b', o, none⟩) len)[j]? = some u → (w2.alloc (.cells #[] 50)).cell? (ad.add j) = some u) := .inr ⟨_, rfl, fun j u hj => by
    obtain ⟨u', q1, q2, q3⟩ := news_at HP.out j (by have := (List.getElem?_eq_some_iff.1 hj).1; rw [news_length] at this; have := HLEN.out; omega)
    rw [HLEN.out, hj] at q1
    obtain rfl : u = u' := by simpa using q1
    rw [plain_add (a := ⟨b', o, none⟩) rfl]
    exact (UA.out.cell (p := ⟨b', o + j, none⟩) (World.block_lt_of_cell? _ _ q2) (by simp)).trans q2⟩
  have O6 : Hid (∀ u ∈ newsOf w2 (some ⟨b', o, none⟩) len, u.oneCell' = true) := fun u hu => by
    obtain ⟨j, hj⟩ := List.getElem?_of_mem hu
    obtain ⟨u', q1, q2, q3⟩ := news_at HP.out j (by have := (List.getElem?_eq_some_iff.1 hj).1; rw [news_length] at this; have := HLEN.out; omega)
    rw [HLEN.out, hj] at q1
    obtain rfl : u = u' := by simpa using q1
    exact q3
  go_wp2_with (at_builtin; refine wpList_append_src rfl (.tmp 42) (.tmp 43) _ rfl w2.heap.size 50 _ 3 40 Try.underlying22 info_piece rfl (by decide) (some ⟨w2.heap.size, 0, none⟩) 0 0 [] rfl O1.out (some ⟨b', o, none⟩) len cap (newsOf w2 (some ⟨b', o, none⟩) len) rfl O5.out O2.out O6.out O3.out O4.out (by simp) ?_; intro A7 c7 w7 h7 u7 a7; obtain ⟨g, cs, pa2, pn2, pc2, rfl, q0, q2, q1, q3, CP⟩ := copy_open HP.out (Nat.le_refl _) HLEN.out HL1.out h7 u7 HPP.out; clear h7 u7 a7)
  have UV := hide CP.out.2.2.1
  have M0 := hide (show MoreAt g (k * 3) cs w7 (w7.setCell ⟨g, k * 3, none⟩ (.slice none 0 0)) none 0 0 [] from
    ⟨CP.out.1.set_ (k * 3) _, World.ownsRow_nil _ _ _ _, (Upd.refl [g] w7).setCell (.inl (by simp)) _, rfl, CP.out.1.lt, CP.out.2.2.2.2.1⟩)
  have HG0 := hide CP.out.2.1
  clear q0 q1 q2 q3
  go_loopw [14] (fun s14 wr => ∃ (i : Nat) (A : Option Addr) (m c : Nat) (zs : List Int), i ≤ j1 + 1 ∧ s14 = .int .i64 i ∧ m ≤ i + 1 ∧ Hid (MoreAt g (k * 3) cs w7 wr A m c zs) ∧ Hid (Ins n p.lens i zs))
    (fun i _ => j1 + 1 - (intOf i).toNat)
  case atStart => exact ⟨0, none, 0, 0, [], Nat.zero_le _, rfl, by omega, M0, Ins.zero _ _⟩
  case round =>
    obtain ⟨i, A, m, c, zs, hi, rfl, hm, MO, HI⟩ := hrel
    have U2 := hide (MO.out.from2 UV.out HG0.out)
    have d0 := KEEP.out _ _ _ U2.out C0.out
    by_cases hlt : i < j1 + 1
    · obtain ⟨y, hy⟩ : ∃ y, p.lens[i]? = some y := ⟨_, List.getElem?_eq_getElem (by have := HPN2.out; omega)⟩
      have HY := hide hy
      have d1 := KEEP.out _ _ _ U2.out (HLC.out i y hy)
      have ASC := hide (asc_lt HOK.out)
      have hil : (i : Int) < (j1 : Int) + 1 := by omega
      clear hy
      have PQ := hide (show ∀ W, Upd [] w2 W → W.cell? ⟨lb, lo + i, none⟩ = some (.int .i64 y) ∧ W.cell? ⟨b', o + k * 3, none⟩ = some (.slice (some ⟨lb, lo, none⟩) (j1 + 1) pc) from fun W hW => ⟨KEEP.out _ _ _ hW (HLC.out i y HY.out), KEEP.out _ _ _ hW C0.out⟩)
      have hi8 : i ≤ 8 := by omega
      by_cases hny : n < y
      · by_cases hi0 : i = 0
        · subst hi0
          have hv0 := hide (show ∀ v ∈ p.lens.take 0, v < n from fun v hv => by simp at hv)
          have d1 : wr.cell? ⟨lb, lo, none⟩ = some (.int .i64 y) := by simpa using d1
          have PQ : Hid (∀ W, Upd [] w2 W → W.cell? ⟨lb, lo, none⟩ = some (.int .i64 y) ∧ W.cell? ⟨b', o + k * 3, none⟩ = some (.slice (some ⟨lb, lo, none⟩) (j1 + 1) pc)) := by have := PQ.out; simp only [Nat.add_zero] at this; exact this
          have O1 := hide (show ∀ u ∈ [Value.int .i64 n], u.oneCell' = true by simp [Value.oneCell'])
          have O3 := hide (show m + 1 ≤ maxLen by unfold maxLen; omega)
          have O4 := hide (show (m + 1) * 8 ≤ 140737488355328 by omega)
          have OB := hide (MO.out.row.alloc (.cells #[.int .i64 n] 3))
          have OS := hide (show w7.heap.size ≤ (wr.alloc (.cells #[.int .i64 n] 3)).heap.size by have := MO.out.upd.size; rw [World.size_alloc]; omega)
          have e0 := MO.out.cell
          have e1 := MO.out.cellA (.cells #[.int .i64 n] 3)
          go_wp2_with (at_builtin; refine wpList_append_base rfl (.tmp 92) (.tmp 94) _ rfl w7.heap.size 3 _ 1 8 Try.underlying24 info_int rfl (by decide) A m c _ rfl OB.out ⟨wr.heap.size, 0, none⟩ 1 1 [.int .i64 n] rfl rfl (cell_one_new _ _ _) O1.out O3.out O4.out OS.out ?_; intro A5 c5 w5 h5 u5 a5; have af := MO.out.mid u5; have q0 := af.2.1; have q1 := af.2.2; have MO5 := hide (MO.out.app u5 h5); clear af h5 u5 a5)
          have hm2 : m + 1 ≤ 9 := by have := hm; omega
          obtain ⟨wx, hwx⟩ : ∃ wx, w5.setCell ⟨g, k * 3, none⟩ (.slice A5 (m + 1) c5) = wx := ⟨_, rfl⟩
          have MOX := MO5.out
          rw [hwx] at MOX
          have MX := hide MOX
          have HWX := hide hwx
          clear hwx MOX e0 e1 q0 q1
          rw [HWX.out]
          have HIX := hide (HI.out.both HY.out hny hv0.out)
          have UX := hide (MX.out.from2 UV.out HG0.out)
          have R1 := hide (show ∀ u ∈ [Value.int .i64 y], u.oneCell' = true by simp [Value.oneCell'])
          have R3 := hide (show (m + 1) + 1 ≤ maxLen by unfold maxLen; omega)
          have R4 := hide (show ((m + 1) + 1) * 8 ≤ 140737488355328 by omega)
          have RB := hide (MX.out.drew.row.alloc (.cells #[.int .i64 y] 3))
          have RS := hide (show w7.heap.size ≤ (wx.drew.alloc (.cells #[.int .i64 y] 3)).heap.size by have := MX.out.drew.upd.size; rw [World.size_alloc]; omega)
          have f0 := MX.out.drew.cell
          have f1 := MX.out.drew.cellA (.cells #[.int .i64 y] 3)
          have f2 := (PQ.out wx.drew UX.out.drew).1
          have f3 := (PQ.out wx.drew UX.out.drew).2
          have f4 := (PQ.out _ (UX.out.drew.alloc (.cells #[.int .i64 y] 3))).1
          have f5 := (PQ.out _ (UX.out.drew.alloc (.cells #[.int .i64 y] 3))).2
          have f6 := MX.out.cellA (.cells #[.int .i64 y] 3)
          have f7 := (PQ.out _ (UX.out.alloc (.cells #[.int .i64 y] 3))).1
          have f8 := (PQ.out _ (UX.out.alloc (.cells #[.int .i64 y] 3))).2
          go_region_law (refine step_append_base rfl (.tmp 104) (.tmp 113) _ rfl w7.heap.size 3 _ 1 8 Try.underlying24 info_int rfl (by decide) A5 (m + 1) c5 _ rfl RB.out ⟨wx.drew.heap.size, 0, none⟩ 1 1 [.int .i64 y] rfl rfl (cell_one_new _ _ _) R1.out R3.out R4.out RS.out ?_; intro A9 c9 w9 h9 u9; have af := MX.out.drew.mid u9; have q0 := af.2.1; have q1 := af.2.2; have MO9 := hide (MX.out.drew.app u9 h9); clear af h9 u9)
          all_goals (
            go_wp2_with fail
            go_roundw
            case rel => exact ⟨0 + 1, A9, (m + 1) + 1, c9, (zs ++ [n]) ++ [y], by omega, by go_num, by
              have h1 := HIX.out.len
              have h2 := MO9.out.len
              rw [h2] at h1
              rcases h1 with h1 | ⟨h1, _⟩ <;> omega, MO9, HIX⟩
            case measure => simp [intOf] <;> omega)
        · obtain ⟨j, rfl⟩ : ∃ j, i = j + 1 := ⟨i - 1, by omega⟩
          obtain ⟨v, hv⟩ : ∃ v, p.lens[j]? = some v := ⟨_, List.getElem?_eq_getElem (by have := HPN2.out; omega)⟩
          have d2 := KEEP.out _ _ _ U2.out (HLC.out j v hv)
          have HVV := hide hv
          have hj0' : ¬ ((j : Int) + 1) = 0 := by omega
          have hjl : (j : Int) < (j1 : Int) + 1 := by omega
          have hj00 : 0 ≤ (j : Int) + 1 := by omega
          clear hv
          by_cases hvn : v < n
          · have hv0 := hide (take_upto ASC.out HVV.out hvn)
            have O1 := hide (show ∀ u ∈ [Value.int .i64 n], u.oneCell' = true by simp [Value.oneCell'])
            have O3 := hide (show m + 1 ≤ maxLen by unfold maxLen; omega)
            have O4 := hide (show (m + 1) * 8 ≤ 140737488355328 by omega)
            have OB := hide (MO.out.row.alloc (.cells #[.int .i64 n] 3))
            have OS := hide (show w7.heap.size ≤ (wr.alloc (.cells #[.int .i64 n] 3)).heap.size by have := MO.out.upd.size; rw [World.size_alloc]; omega)
            have e0 := MO.out.cell
            have e1 := MO.out.cellA (.cells #[.int .i64 n] 3)
            go_wp2_with (at_builtin; refine wpList_append_base rfl (.tmp 92) (.tmp 94) _ rfl w7.heap.size 3 _ 1 8 Try.underlying24 info_int rfl (by decide) A m c _ rfl OB.out ⟨wr.heap.size, 0, none⟩ 1 1 [.int .i64 n] rfl rfl (cell_one_new _ _ _) O1.out O3.out O4.out OS.out ?_; intro A5 c5 w5 h5 u5 a5; have af := MO.out.mid u5; have q0 := af.2.1; have q1 := af.2.2; have MO5 := hide (MO.out.app u5 h5); clear af h5 u5 a5)
            have hm2 : m + 1 ≤ 9 := by have := hm; omega
            obtain ⟨wx, hwx⟩ : ∃ wx, w5.setCell ⟨g, k * 3, none⟩ (.slice A5 (m + 1) c5) = wx := ⟨_, rfl⟩
            have MOX := MO5.out
            rw [hwx] at MOX
            have MX := hide MOX
            have HWX := hide hwx
            clear hwx MOX e0 e1 q0 q1
            rw [HWX.out]
            have HIX := hide (HI.out.both HY.out hny hv0.out)
            have UX := hide (MX.out.from2 UV.out HG0.out)
            have R1 := hide (show ∀ u ∈ [Value.int .i64 y], u.oneCell' = true by simp [Value.oneCell'])
            have R3 := hide (show (m + 1) + 1 ≤ maxLen by unfold maxLen; omega)
            have R4 := hide (show ((m + 1) + 1) * 8 ≤ 140737488355328 by omega)
            have RB := hide (MX.out.drew.row.alloc (.cells #[.int .i64 y] 3))
            have RS := hide (show w7.heap.size ≤ (wx.drew.alloc (.cells #[.int .i64 y] 3)).heap.size by have := MX.out.drew.upd.size; rw [World.size_alloc]; omega)
            have f0 := MX.out.drew.cell
            have f1 := MX.out.drew.cellA (.cells #[.int .i64 y] 3)
            have f2 := (PQ.out wx.drew UX.out.drew).1
            have f3 := (PQ.out wx.drew UX.out.drew).2
            have f4 := (PQ.out _ (UX.out.drew.alloc (.cells #[.int .i64 y] 3))).1
            have f5 := (PQ.out _ (UX.out.drew.alloc (.cells #[.int .i64 y] 3))).2
            have f6 := MX.out.cellA (.cells #[.int .i64 y] 3)
            have f7 := (PQ.out _ (UX.out.alloc (.cells #[.int .i64 y] 3))).1
            have f8 := (PQ.out _ (UX.out.alloc (.cells #[.int .i64 y] 3))).2
            go_region_law (refine step_append_base rfl (.tmp 104) (.tmp 113) _ rfl w7.heap.size 3 _ 1 8 Try.underlying24 info_int rfl (by decide) A5 (m + 1) c5 _ rfl RB.out ⟨wx.drew.heap.size, 0, none⟩ 1 1 [.int .i64 y] rfl rfl (cell_one_new _ _ _) R1.out R3.out R4.out RS.out ?_; intro A9 c9 w9 h9 u9; have af := MX.out.drew.mid u9; have q0 := af.2.1; have q1 := af.2.2; have MO9 := hide (MX.out.drew.app u9 h9); clear af h9 u9)
            all_goals (
              go_wp2_with fail
              go_roundw
              case rel => exact ⟨(j + 1) + 1, A9, (m + 1) + 1, c9, (zs ++ [n]) ++ [y], by omega, by go_num, by
                have h1 := HIX.out.len
                have h2 := MO9.out.len
                rw [h2] at h1
                rcases h1 with h1 | ⟨h1, _⟩ <;> omega, MO9, HIX⟩
              case measure => simp [intOf] <;> omega)
          · have hm2 : m ≤ 9 := by have := hm; omega
            have HIX := hide (HI.out.next ASC.out HY.out)
            obtain ⟨wx, hwx⟩ : ∃ wx : World, wx = wr := ⟨_, rfl⟩
            subst hwx
            have MX := MO
            go_wp2_with fail
            have UX := hide (MX.out.from2 UV.out HG0.out)
            have R1 := hide (show ∀ u ∈ [Value.int .i64 y], u.oneCell' = true by simp [Value.oneCell'])
            have R3 := hide (show m + 1 ≤ maxLen by unfold maxLen; omega)
            have R4 := hide (show (m + 1) * 8 ≤ 140737488355328 by omega)
            have RB := hide (MX.out.drew.row.alloc (.cells #[.int .i64 y] 3))
            have RS := hide (show w7.heap.size ≤ (wx.drew.alloc (.cells #[.int .i64 y] 3)).heap.size by have := MX.out.drew.upd.size; rw [World.size_alloc]; omega)
            have f0 := MX.out.drew.cell
            have f1 := MX.out.drew.cellA (.cells #[.int .i64 y] 3)
            have f2 := (PQ.out wx.drew UX.out.drew).1
            have f3 := (PQ.out wx.drew UX.out.drew).2
            have f4 := (PQ.out _ (UX.out.drew.alloc (.cells #[.int .i64 y] 3))).1
            have f5 := (PQ.out _ (UX.out.drew.alloc (.cells #[.int .i64 y] 3))).2
            have f6 := MX.out.cellA (.cells #[.int .i64 y] 3)
            have f7 := (PQ.out _ (UX.out.alloc (.cells #[.int .i64 y] 3))).1
            have f8 := (PQ.out _ (UX.out.alloc (.cells #[.int .i64 y] 3))).2
            go_region_law (refine step_append_base rfl (.tmp 104) (.tmp 113) _ rfl w7.heap.size 3 _ 1 8 Try.underlying24 info_int rfl (by decide) A m c _ rfl RB.out ⟨wx.drew.heap.size, 0, none⟩ 1 1 [.int .i64 y] rfl rfl (cell_one_new _ _ _) R1.out R3.out R4.out RS.out ?_; intro A9 c9 w9 h9 u9; have af := MX.out.drew.mid u9; have q0 := af.2.1; have q1 := af.2.2; have MO9 := hide (MX.out.drew.app u9 h9); clear af h9 u9)
            all_goals (
              go_wp2_with fail
              go_roundw
              case rel => exact ⟨(j + 1) + 1, A9, m + 1, c9, zs ++ [y], by omega, by go_num, by
                have h1 := HIX.out.len
                have h2 := MO9.out.len
                rw [h2] at h1
                rcases h1 with h1 | ⟨h1, _⟩ <;> omega, MO9, HIX⟩
              case measure => simp [intOf] <;> omega)
      · have hm2 : m ≤ 9 := by have := hm; omega
        have HIX := hide (HI.out.next ASC.out HY.out)
        obtain ⟨wx, hwx⟩ : ∃ wx : World, wx = wr := ⟨_, rfl⟩
        subst hwx
        have MX := MO
        go_wp2_with fail
        have UX := hide (MX.out.from2 UV.out HG0.out)
        have R1 := hide (show ∀ u ∈ [Value.int .i64 y], u.oneCell' = true by simp [Value.oneCell'])
        have R3 := hide (show m + 1 ≤ maxLen by unfold maxLen; omega)
        have R4 := hide (show (m + 1) * 8 ≤ 140737488355328 by omega)
        have RB := hide (MX.out.drew.row.alloc (.cells #[.int .i64 y] 3))
        have RS := hide (show w7.heap.size ≤ (wx.drew.alloc (.cells #[.int .i64 y] 3)).heap.size by have := MX.out.drew.upd.size; rw [World.size_alloc]; omega)
        have f0 := MX.out.drew.cell
        have f1 := MX.out.drew.cellA (.cells #[.int .i64 y] 3)
        have f2 := (PQ.out wx.drew UX.out.drew).1
        have f3 := (PQ.out wx.drew UX.out.drew).2
        have f4 := (PQ.out _ (UX.out.drew.alloc (.cells #[.int .i64 y] 3))).1
        have f5 := (PQ.out _ (UX.out.drew.alloc (.cells #[.int .i64 y] 3))).2
        have f6 := MX.out.cellA (.cells #[.int .i64 y] 3)
        have f7 := (PQ.out _ (UX.out.alloc (.cells #[.int .i64 y] 3))).1
        have f8 := (PQ.out _ (UX.out.alloc (.cells #[.int .i64 y] 3))).2
        go_region_law (refine step_append_base rfl (.tmp 104) (.tmp 113) _ rfl w7.heap.size 3 _ 1 8 Try.underlying24 info_int rfl (by decide) A m c _ rfl RB.out ⟨wx.drew.heap.size, 0, none⟩ 1 1 [.int .i64 y] rfl rfl (cell_one_new _ _ _) R1.out R3.out R4.out RS.out ?_; intro A9 c9 w9 h9 u9; have af := MX.out.drew.mid u9; have q0 := af.2.1; have q1 := af.2.2; have MO9 := hide (MX.out.drew.app u9 h9); clear af h9 u9)
        all_goals (
          go_wp2_with fail
          go_roundw
          case rel => exact ⟨i + 1, A9, m + 1, c9, zs ++ [y], by omega, by go_num, by
            have h1 := HIX.out.len
            have h2 := MO9.out.len
            rw [h2] at h1
            rcases h1 with h1 | ⟨h1, _⟩ <;> omega, MO9, HIX⟩
          case measure => simp [intOf] <;> omega)
    · obtain rfl : i = j1 + 1 := by omega
      obtain ⟨wo, rfl⟩ : ∃ wo : World, wo = wr := ⟨_, rfl⟩
      obtain ⟨v, hv⟩ : ∃ v, p.lens[j1]? = some v := ⟨_, List.getElem?_eq_getElem (by have := HPN2.out; omega)⟩
      have HVV := hide hv
      have d1 := KEEP.out _ _ _ U2.out (HLC.out j1 v hv)
      have hwj : IntKind.i64.wrap (j1 : Int) = (j1 : Int) := Go.IntWalk.i64_in _ (by omega)
      have hj00 : 0 ≤ (j1 : Int) := by omega
      have hjl : (j1 : Int) < (j1 : Int) + 1 := by omega
      have ASC := hide (asc_lt HOK.out)
      have HI2 : Hid (Ins n p.lens p.lens.length zs) := by have := HI.out; rw [HPN2.out] at this; exact this
      have e0 : wo.drew.cell? ⟨lb, lo + j1, none⟩ = some (.int .i64 v) := d1
      have e1 : wo.drew.cell? ⟨b', o + k * 3, none⟩ = some (.slice (some ⟨lb, lo, none⟩) (j1 + 1) pc) := d0
      clear hv
      go_wp2_with fail
      refine wp_region_held_drew (S := (fun w' => w'.cell? ⟨lb, lo + j1, none⟩ = some (.int .i64 v) ∧ w'.cell? ⟨b', o + k * 3, none⟩ = some (.slice (some ⟨lb, lo, none⟩) (j1 + 1) pc))) (by kernel_rfl) (by exact ⟨e0, e1⟩) (fun hHeld => ?_)
      refine wpAnyH_take (i := 0) (oi := ?oi0R) (v := ?v0R) ?oi0_0R (by kernel_rfl) ?ff0R ?rr0R ?hq0R (Or.inl ⟨?hw0R, ?hy0R⟩) (by assumption) ?rest0R
      case oi0_0R =>
        conv =>
          lhs
          whnf
          arg 1
          whnf
      case hq0R => exact fun _ _ _ h => h
      case ff0R => kernel_rfl
      case rr0R => kernel_rfl
      case hw0R => rfl
      case hy0R =>
        intro w hSw
        (try dsimp only at hSw)
        first
        | (go_simp; done)
        | (go_simp; with_reducible rfl)
      try simp only [Act.put, List.setIfInBounds_toArray, List.set_cons_zero, List.set_cons_succ]
      refine wpAnyH_take (i := 1) (oi := ?oi1R) (v := ?v1R) ?oi0_1R (by kernel_rfl) ?ff1R ?rr1R ?hq1R (Or.inl ⟨?hw1R, ?hy1R⟩) (by assumption) ?rest1R
      case oi0_1R =>
        conv =>
          lhs
          whnf
          arg 1
          whnf
      case hq1R => exact fun _ _ _ h => h
      case ff1R => kernel_rfl
      case rr1R => kernel_rfl
      case hw1R => rfl
      case hy1R =>
        intro w hSw
        (try dsimp only at hSw)
        first
        | (go_simp; done)
        | (go_simp; with_reducible rfl)
      try simp only [Act.put, List.setIfInBounds_toArray, List.set_cons_zero, List.set_cons_succ]
      refine wpAnyH_take (i := 2) (oi := ?oi2R) (v := ?v2R) ?oi0_2R (by kernel_rfl) ?ff2R ?rr2R ?hq2R (Or.inl ⟨?hw2R, ?hy2R⟩) (by assumption) ?rest2R
      case oi0_2R =>
        conv =>
          lhs
          whnf
          arg 1
          whnf
      case hq2R => exact fun _ _ _ h => h
      case ff2R => kernel_rfl
      case rr2R => kernel_rfl
      case hw2R => rfl
      case hy2R =>
        intro w hSw
        (try dsimp only at hSw)
        first
        | (go_simp; done)
        | (go_simp; with_reducible rfl)
      try simp only [Act.put, List.setIfInBounds_toArray, List.set_cons_zero, List.set_cons_succ]
      refine wpAnyH_take (i := 3) (oi := ?oi3R) (v := ?v3R) ?oi0_3R (by kernel_rfl) ?ff3R ?rr3R ?hq3R (Or.inl ⟨?hw3R, ?hy3R⟩) (by assumption) ?rest3R
      case oi0_3R =>
        conv =>
          lhs
          whnf
          arg 1
          whnf
      case hq3R => exact fun _ _ _ h => h
      case ff3R => kernel_rfl
      case rr3R => kernel_rfl
      case hw3R => rfl
      case hy3R =>
        intro w hSw
        (try dsimp only at hSw)
        first
        | (go_simp; done)
        | (go_simp; with_reducible rfl)
      try simp only [Act.put, List.setIfInBounds_toArray, List.set_cons_zero, List.set_cons_succ]
      refine wpAnyH_take (i := 4) (oi := ?oi4R) (v := ?v4R) ?oi0_4R (by kernel_rfl) ?ff4R ?rr4R ?hq4R (Or.inl ⟨?hw4R, ?hy4R⟩) (by assumption) ?rest4R
      case oi0_4R =>
        conv =>
          lhs
          whnf
          arg 1
          whnf
      case hq4R => exact fun _ _ _ h => h
      case ff4R => kernel_rfl
      case rr4R => kernel_rfl
      case hw4R => rfl
      case hy4R =>
        intro w hSw
        (try dsimp only at hSw)
        first
        | (go_simp; done)
        | (go_simp; with_reducible rfl)
      try simp only [Act.put, List.setIfInBounds_toArray, List.set_cons_zero, List.set_cons_succ]
      refine wpAnyH_take (i := 5) (oi := ?oi5R) (v := ?v5R) ?oi0_5R (by kernel_rfl) ?ff5R ?rr5R ?hq5R (Or.inl ⟨?hw5R, ?hy5R⟩) (by assumption) ?rest5R
      case oi0_5R =>
        conv =>
          lhs
          whnf
          arg 1
          whnf
      case hq5R => exact fun _ _ _ h => h
      case ff5R => kernel_rfl
      case rr5R => kernel_rfl
      case hw5R => rfl
      case hy5R =>
        intro w hSw
        (try dsimp only at hSw)
        first
        | (go_simp; done)
        | (go_simp; with_reducible rfl)
      try simp only [Act.put, List.setIfInBounds_toArray, List.set_cons_zero, List.set_cons_succ]
      refine wpAnyH_take (i := 6) (oi := ?oi6R) (v := ?v6R) ?oi0_6R (by kernel_rfl) ?ff6R ?rr6R ?hq6R (Or.inl ⟨?hw6R, ?hy6R⟩) (by assumption) ?rest6R
      case oi0_6R =>
        conv =>
          lhs
          whnf
          arg 1
          whnf
      case hq6R => exact fun _ _ _ h => h
      case ff6R => kernel_rfl
      case rr6R => kernel_rfl
      case hw6R => rfl
      case hy6R =>
        intro w hSw
        (try dsimp only at hSw)
        first
        | (go_simp; done)
        | (go_simp; with_reducible rfl)
      try simp only [Act.put, List.setIfInBounds_toArray, List.set_cons_zero, List.set_cons_succ]
      refine wpAnyH_take (i := 7) (oi := ?oi7R) (v := ?v7R) ?oi0_7R (by kernel_rfl) ?ff7R ?rr7R ?hq7R (Or.inl ⟨?hw7R, ?hy7R⟩) (by assumption) ?rest7R
      case oi0_7R =>
        conv =>
          lhs
          whnf
          arg 1
          whnf
      case hq7R => exact fun _ _ _ h => h
      case ff7R => kernel_rfl
      case rr7R => kernel_rfl
      case hw7R => rfl
      case hy7R =>
        intro w hSw
        (try dsimp only at hSw)
        first
        | (go_simp; done)
        | (go_simp; with_reducible rfl)
      try simp only [Act.put, List.setIfInBounds_toArray, List.set_cons_zero, List.set_cons_succ]
      refine wpAnyH_take (i := 8) (oi := ?oi8R) (v := ?v8R) ?oi0_8R (by kernel_rfl) ?ff8R ?rr8R ?hq8R (Or.inl ⟨?hw8R, ?hy8R⟩) (by assumption) ?rest8R
      case oi0_8R =>
        conv =>
          lhs
          whnf
          arg 1
          whnf
      case hq8R => exact fun _ _ _ h => h
      case ff8R => kernel_rfl
      case rr8R => kernel_rfl
      case hw8R => rfl
      case hy8R =>
        intro w hSw
        (try dsimp only at hSw)
        first
        | (go_simp; done)
        | (go_simp; with_reducible rfl)
      try simp only [Act.put, List.setIfInBounds_toArray, List.set_cons_zero, List.set_cons_succ]
      refine wpAnyH_take (i := 9) (oi := ?oi9R) (v := ?v9R) ?oi0_9R (by kernel_rfl) ?ff9R ?rr9R ?hq9R (Or.inl ⟨?hw9R, ?hy9R⟩) (by assumption) ?rest9R
      case oi0_9R =>
        conv =>
          lhs
          whnf
          arg 1
          whnf
      case hq9R => exact fun _ _ _ h => h
      case ff9R => kernel_rfl
      case rr9R => kernel_rfl
      case hw9R => rfl
      case hy9R =>
        intro w hSw
        (try dsimp only at hSw)
        first
        | (go_simp; done)
        | (go_simp; with_reducible rfl)
      try simp only [Act.put, List.setIfInBounds_toArray, List.set_cons_zero, List.set_cons_succ]
      refine wpAnyH_take (i := 10) (oi := ?oi10R) (v := ?v10R) ?oi0_10R (by kernel_rfl) ?ff10R ?rr10R ?hq10R (Or.inl ⟨?hw10R, ?hy10R⟩) (by assumption) ?rest10R
      case oi0_10R =>
        conv =>
          lhs
          whnf
          arg 1
          whnf
      case hq10R => exact fun _ _ _ h => h
      case ff10R => kernel_rfl
      case rr10R => kernel_rfl
      case hw10R => rfl
      case hy10R =>
        intro w hSw
        (try dsimp only at hSw)
        first
        | (go_simp; done)
        | (go_simp; with_reducible rfl)
      try simp only [Act.put, List.setIfInBounds_toArray, List.set_cons_zero, List.set_cons_succ]
      refine wpAnyH_take (i := 11) (oi := ?oi11R) (v := ?v11R) ?oi0_11R (by kernel_rfl) ?ff11R ?rr11R ?hq11R (Or.inl ⟨?hw11R, ?hy11R⟩) (by assumption) ?rest11R
      case oi0_11R =>
        conv =>
          lhs
          whnf
          arg 1
          whnf
      case hq11R => exact fun _ _ _ h => h
      case ff11R => kernel_rfl
      case rr11R => kernel_rfl
      case hw11R => rfl
      case hy11R =>
        intro w hSw
        (try dsimp only at hSw)
        first
        | (go_simp; done)
        | (go_simp; with_reducible rfl)
      try simp only [Act.put, List.setIfInBounds_toArray, List.set_cons_zero, List.set_cons_succ]
      refine wpAnyH_take (i := 12) (oi := ?oi12R) (v := ?v12R) ?oi0_12R (by kernel_rfl) ?ff12R ?rr12R ?hq12R (Or.inl ⟨?hw12R, ?hy12R⟩) (by assumption) ?rest12R
      case oi0_12R =>
        conv =>
          lhs
          whnf
          arg 1
          whnf
      case hq12R => exact fun _ _ _ h => h
      case ff12R => kernel_rfl
      case rr12R => kernel_rfl
      case hw12R => rfl
      case hy12R =>
        intro w hSw
        (try dsimp only at hSw)
        first
        | (go_simp; done)
        | (go_simp; with_reducible rfl)
      try simp only [Act.put, List.setIfInBounds_toArray, List.set_cons_zero, List.set_cons_succ]
      refine wpAnyH_take (i := 13) (oi := ?oi13R) (v := ?v13R) ?oi0_13R (by kernel_rfl) ?ff13R ?rr13R ?hq13R (Or.inl ⟨?hw13R, ?hy13R⟩) (by assumption) ?rest13R
      case oi0_13R =>
        conv =>
          lhs
          whnf
          arg 1
          whnf
      case hq13R => exact fun _ _ _ h => h
      case ff13R => kernel_rfl
      case rr13R => kernel_rfl
      case hw13R => rfl
      case hy13R =>
        intro w hSw
        (try dsimp only at hSw)
        first
        | (go_simp; done)
        | (go_simp; with_reducible rfl)
      try simp only [Act.put, List.setIfInBounds_toArray, List.set_cons_zero, List.set_cons_succ]
      refine wpAnyH_take (i := 14) (oi := ?oi14R) (v := ?v14R) ?oi0_14R (by kernel_rfl) ?ff14R ?rr14R ?hq14R (Or.inl ⟨?hw14R, ?hy14R⟩) (by assumption) ?rest14R
      case oi0_14R =>
        conv =>
          lhs
          whnf
          arg 1
          whnf
      case hq14R => exact fun _ _ _ h => h
      case ff14R => kernel_rfl
      case rr14R => kernel_rfl
      case hw14R => rfl
      case hy14R =>
        intro w hSw
        (try dsimp only at hSw)
        first
        | (go_simp; done)
        | (go_simp; with_reducible rfl)
      try simp only [Act.put, List.setIfInBounds_toArray, List.set_cons_zero, List.set_cons_succ]
      refine wpAnyH_take (i := 15) (oi := ?oi15R) (v := ?v15R) ?oi0_15R (by kernel_rfl) ?ff15R ?rr15R ?hq15R (Or.inl ⟨?hw15R, ?hy15R⟩) (by assumption) ?rest15R
      case oi0_15R =>
        conv =>
          lhs
          whnf
          arg 1
          whnf
      case hq15R => exact fun _ _ _ h => h
      case ff15R => kernel_rfl
      case rr15R => kernel_rfl
      case hw15R => rfl
      case hy15R =>
        intro w hSw
        (try dsimp only at hSw)
        first
        | (go_simp; done)
        | (go_simp; with_reducible rfl)
      try simp only [Act.put, List.setIfInBounds_toArray, List.set_cons_zero, List.set_cons_succ]
      refine wpAnyH_done (by kernel_rfl) ?_ _
      have MOD := hide MO.out.drew
      have hm9 : m ≤ 8 := by
        have h1 := HI2.out.len
        have h2 := MO.out.len
        have := HPN2.out
        rw [h2] at h1
        rcases h1 with h1 | ⟨h1, _⟩ <;> omega
      go_upto_if 132 with fail
      go_cut [14, 15] from 49 to 144 (fun _ _ wx => ∃ (A : Option Addr) (m c : Nat) (zs : List Int), Hid (MoreAt g (k * 3) cs w7 wx A m c zs) ∧ Hid (PcOk { p with lens := zs } ∧ Wider p { p with lens := zs }))
      case first =>
        by_cases hvn : v < n
        · have HF := hide (HI2.out.fin2 HOK.out (by have := HPN2.out; omega) ⟨hn1, by omega⟩ (by
            have h := take_upto ASC.out HVV.out hvn
            rwa [List.take_of_length_le (by have := HPN2.out; omega)] at h))
          have O1 := hide (show ∀ u ∈ [Value.int .i64 n], u.oneCell' = true by simp [Value.oneCell'])
          have O3 := hide (show m + 1 ≤ maxLen by unfold maxLen; omega)
          have O4 := hide (show (m + 1) * 8 ≤ 140737488355328 by omega)
          have OB := hide (MOD.out.row.alloc (.cells #[.int .i64 n] 3))
          have OS := hide (show w7.heap.size ≤ (wo.drew.alloc (.cells #[.int .i64 n] 3)).heap.size by have := MOD.out.upd.size; rw [World.size_alloc]; omega)
          have f0 := MOD.out.cell
          have f1 := MOD.out.cellA (.cells #[.int .i64 n] 3)
          have f2 := MO.out.cellA (.cells #[.int .i64 n] 3)
          go_wp2_with (at_builtin; refine wpList_append_base rfl (.tmp 139) (.tmp 141) _ rfl w7.heap.size 3 _ 1 8 Try.underlying24 info_int rfl (by decide) A m c _ rfl OB.out ⟨wo.drew.heap.size, 0, none⟩ 1 1 [.int .i64 n] rfl rfl (cell_one_new _ _ _) O1.out O3.out O4.out OS.out ?_; intro A5 c5 w5 h5 u5 a5; have af := MOD.out.mid u5; have q0 := af.2.1; have q1 := af.2.2; have MO5 := hide (MOD.out.app u5 h5); clear af h5 u5 a5)
          go_meet
          exact ⟨A5, m + 1, c5, zs ++ [n], MO5, HF⟩
        · have HF := hide (HI2.out.fin HOK.out (by have := HPN2.out; omega) ⟨hn1, by omega⟩)
          go_wp2_with fail
          go_meet
          exact ⟨A, m, c, zs, MOD, HF⟩
      case rest =>
        obtain ⟨A3, m3, c3, ys, MC, HF⟩ := hcut
        have UC := hide (MC.out.from2 UV.out HG0.out)
        have HPC := hide (HP.out.upd UC.out (Nat.le_refl _) (by simp))
        have HQ := hide (MC.out.pcs (UV.out.size) HG0.out HPP.out CP.out.2.2.2.2.2.2 (by rw [MC.out.len]; have h8 := HF.out.1.1.2; have h9 := MC.out.len; unfold maxLen; have h10 : ys.length ≤ 8 := h8; omega))
        have UA2 := hide ((Upd.refl [] wc).alloc (.cells #[] 50))
        have O1 := hide (own_empty3 wc.heap.size wc (Nat.le_refl _))
        have O3 := hide (show 0 + len ≤ maxLen by unfold maxLen; omega)
        have O4 := hide (show (0 + len) * 40 ≤ 140737488355328 by omega)
        have O5 : Hid ((newsOf wc (some ⟨b', o, none⟩) len).length = len * 3) := news_length
        have O2 : Hid (((some ⟨b', o, none⟩ : Option Addr) = none ∧ len = 0) ∨ ∃ ad, (some ⟨b', o, none⟩ : Option Addr) = some ad ∧ ∀ j u, (newsOf wc (some ⟨b', o, none⟩) len)[j]? = some u → (wc.alloc (.cells #[] 50)).cell? (ad.add j) = some u) := .inr ⟨_, rfl, fun j u hj => by
          obtain ⟨u', q1, q2, q3⟩ := news_at HPC.out j (by have := (List.getElem?_eq_some_iff.1 hj).1; rw [news_length] at this; have := HLEN.out; omega)
          rw [HLEN.out, hj] at q1
          obtain rfl : u = u' := by simpa using q1
          rw [plain_add (a := ⟨b', o, none⟩) rfl]
          exact (UA2.out.cell (p := ⟨b', o + j, none⟩) (World.block_lt_of_cell? _ _ q2) (by simp)).trans q2⟩
        have O6 : Hid (∀ u ∈ newsOf wc (some ⟨b', o, none⟩) len, u.oneCell' = true) := fun u hu => by
          obtain ⟨j, hj⟩ := List.getElem?_of_mem hu
          obtain ⟨u', q1, q2, q3⟩ := news_at HPC.out j (by have := (List.getElem?_eq_some_iff.1 hj).1; rw [news_length] at this; have := HLEN.out; omega)
          rw [HLEN.out, hj] at q1
          obtain rfl : u = u' := by simpa using q1
          exact q3
        go_wp2_with (at_builtin; refine wpList_append_src rfl (.tmp 145) (.tmp 146) _ rfl wc.heap.size 50 _ 3 40 Try.underlying22 info_piece rfl (by decide) (some ⟨wc.heap.size, 0, none⟩) 0 0 [] rfl O1.out (some ⟨b', o, none⟩) len cap (newsOf wc (some ⟨b', o, none⟩) len) rfl O5.out O2.out O6.out O3.out O4.out (by simp) ?_; intro A8 c8 w8 h8 u8 a8; obtain ⟨g2, cs2, pa3, pn3, pc3, rfl, q0, q2, q1, q3, CP2⟩ := copy_open HPC.out UC.out.size HLEN.out HL1.out h8 u8 HPP.out; clear h8 u8 a8)
        obtain ⟨wf, hwf⟩ : ∃ wf, w8.setCell ⟨g2, k * 3 + 2, none⟩ (.int .i64 (-1)) = wf := ⟨_, rfl⟩
        have UW8 : Upd [] wc wf := by rw [← hwf]; exact CP2.out.2.2.1.setCell (.inr CP2.out.2.1) _
        have HWF := hide hwf
        have PS : PcsIn w2.heap.size wf g2 (l.set k (p.at_ (-1))) := by rw [← hwf]; exact CP2.out.2.2.2.2.2.1.set (Nat.le_trans UC.out.size CP2.out.2.2.1.size) HPP.out (-1)
        have HPS := hide PS
        have UF := hide (UC.out.trans UW8 (by simp))
        have UFC := hide UW8
        obtain ⟨q, hq⟩ : ∃ q : Pc, ({ p with lens := ys } : Pc) = q := ⟨_, rfl⟩
        have HQ2 := HQ.out
        have HF2 := HF.out
        rw [hq] at HQ2 HF2
        have HQQ := hide HQ2
        have HFQ := hide HF2
        obtain ⟨ri, rc, re, hr⟩ : ∃ ri rc re, resumeS l t [] = (ri, rc, re) := ⟨_, _, _, rfl⟩
        obtain ⟨r1, d1, e1, hr1⟩ : ∃ r1 d1 e1, resumeS (l.set k q) t [] = (r1, d1, e1) := ⟨_, _, _, rfl⟩
        obtain ⟨r2, d2, e2, hr2⟩ : ∃ r2 d2 e2, resumeS (l.set k (p.at_ (-1))) t [] = (r2, d2, e2) := ⟨_, _, _, rfl⟩
        have SO1 := hide (show ∀ W, Upd [] wf W → Calls Try.prog 19 #[.slice (some ⟨b', o, none⟩) len cap, .int .i64 t] W fun e w' => ∃ A c', e = .returned (.tuple #[.slice A ri.length c', .int .i64 rc, .int .i64 re]) ∧ Ints w'.heap.size w' (.slice A ri.length c') ri ∧ Upd [] W w' from fun W hW => by
          have h := solve_use (some ⟨b', o, none⟩) cap l t W (HP.out.upd (UF.out.trans hW (by simp)) (Nat.le_refl _) (by simp)) (UF.out.trans hW (by simp)).size HM.out hr
          rwa [HLEN.out] at h)
        have SO2 := hide (show ∀ W, Upd [] wf W → Calls Try.prog 19 #[.slice (some ⟨g, 0, none⟩) len c7, .int .i64 t] W fun e w' => ∃ A c', e = .returned (.tuple #[.slice A r1.length c', .int .i64 d1, .int .i64 e1]) ∧ Ints w'.heap.size w' (.slice A r1.length c') r1 ∧ Upd [] W w' from fun W hW => by
          have h := solve_use (some ⟨g, 0, none⟩) c7 (l.set k q) t W (HQQ.out.upd (UFC.out.trans hW (by simp)) (Nat.le_refl _) (by simp)) (UFC.out.trans hW (by simp)).size (by rw [List.length_set]; exact HM.out) hr1
          rwa [List.length_set, HLEN.out] at h)
        have SO3 := hide (show ∀ W, Upd [] wf W → Calls Try.prog 19 #[.slice (some ⟨g2, 0, none⟩) len c8, .int .i64 t] W fun e w' => ∃ A c', e = .returned (.tuple #[.slice A r2.length c', .int .i64 d2, .int .i64 e2]) ∧ Ints w'.heap.size w' (.slice A r2.length c') r2 ∧ Upd [] W w' from fun W hW => by
          have h := solve_use (some ⟨g2, 0, none⟩) c8 (l.set k (p.at_ (-1))) t W (HPS.out.pcs.upd hW (Nat.le_refl _) (by simp)) hW.size (by rw [List.length_set]; exact HM.out) hr2
          rwa [List.length_set, HLEN.out] at h)
        have VA2 := hide (show ∀ W, Upd [] wf W → Calls Try.prog 25 #[.slice (some ⟨g, 0, none⟩) len c7, .int .i64 t] W fun e w' => e = .returned (.bool true) ∧ Upd [] W w' from fun W hW => by
          have h := valid_any (some ⟨g, 0, none⟩) c7 (l.set k q) t W (HQQ.out.upd (UFC.out.trans hW (by simp)) (Nat.le_refl _) (by simp)) (UFC.out.trans hW (by simp)).size (by rw [List.length_set]; exact HM.out)
          rwa [List.length_set, HLEN.out, decide_eq_true (valid_set HV.out HFQ.out.1 k)] at h)
        have VA3 := hide (show ∀ W, Upd [] wf W → Calls Try.prog 25 #[.slice (some ⟨g2, 0, none⟩) len c8, .int .i64 t] W fun e w' => e = .returned (.bool true) ∧ Upd [] W w' from fun W hW => by
          have h := valid_any (some ⟨g2, 0, none⟩) c8 (l.set k (p.at_ (-1))) t W (HPS.out.pcs.upd hW (Nat.le_refl _) (by simp)) hW.size (by rw [List.length_set]; exact HM.out)
          rwa [List.length_set, HLEN.out, decide_eq_true (valid_set HV.out (free_ok HOK.out) k)] at h)
        have UEND := hide (U1.out.trans UF.out (by simp))
        have HR := hide hr
        have HR1 := hide hr1
        have HR2 := hide hr2
        rw [HWF.out]
        clear hwf UW8 PS hq HQ2 HF2 hr hr1 hr2 q0 q1 q2 q3
        rcases solve_errs HV.out HR.out with rfl | rfl
        · obtain ⟨r1', d1', hs1, hle1⟩ := solve_wider HV.out HFQ.out.1 HPP.out HFQ.out.2 HR.out
          obtain ⟨r2', d2', hs2, hle2⟩ := solve_wider HV.out (free_ok HOK.out) HPP.out (free_wider p) HR.out
          rw [HR1.out] at hs1
          rw [HR2.out] at hs2
          simp only [Prod.mk.injEq] at hs1 hs2
          obtain ⟨rfl, rfl, rfl⟩ := hs1
          obtain ⟨rfl, rfl, rfl⟩ := hs2
          refine (SO1.out _ (Upd.refl _ _)).mono ?_
          rintro e wa ⟨A10, c10, rfl, i10, u⟩
          have UA3 := hide u
          clear u i10
          go_wp2_with fail
          refine (SO2.out _ UA3.out).mono ?_
          rintro e wb ⟨A11, c11, rfl, i11, u⟩
          have UB := hide (UA3.out.trans u (by simp))
          clear u i11
          go_wp2_with fail
          refine (SO3.out _ UB.out).mono ?_
          rintro e wd ⟨A12, c12, rfl, i12, u⟩
          have UD := hide (UB.out.trans u (by simp))
          clear u i12
          go_wp2_with fail
          go_ret
          exact ⟨rfl, (UEND.out.trans UD.out (by simp)).toBelow (Nat.le_refl _) (by simp)⟩
        · refine (SO1.out _ (Upd.refl _ _)).mono ?_
          rintro e wa ⟨A10, c10, rfl, i10, u⟩
          have UA3 := hide u
          clear u i10
          go_wp2_with fail
          refine (SO2.out _ UA3.out).mono ?_
          rintro e wb ⟨A11, c11, rfl, i11, u⟩
          have UB := hide (UA3.out.trans u (by simp))
          clear u i11
          go_wp2_with fail
          refine (SO3.out _ UB.out).mono ?_
          rintro e wd ⟨A12, c12, rfl, i12, u⟩
          have UD := hide (UB.out.trans u (by simp))
          clear u i12
          go_wp2_with fail
          refine (VA2.out _ UD.out).mono ?_
          rintro e we ⟨rfl, u⟩
          have UE := hide (UD.out.trans u (by simp))
          clear u
          go_wp2_with fail
          refine (VA3.out _ UE.out).mono ?_
          rintro e wg ⟨rfl, u⟩
          have UG := hide (UE.out.trans u (by simp))
          clear u
          go_wp2_with fail
          go_ret
          exact ⟨rfl, (UEND.out.trans UG.out (by simp)).toBelow (Nat.le_refl _) (by simp)⟩
end Go.Proofs.Yteehjciepccomaa
