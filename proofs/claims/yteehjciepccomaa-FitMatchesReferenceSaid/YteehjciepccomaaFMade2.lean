/-
  Made: the walk.
-/
import Derived.Test.YteehjciepccomaaFMade
namespace Go.Proofs.Yteehjciepccomaa
open Go.RowKit
set_option maxRecDepth 100000
set_option maxHeartbeats 1000000

theorem cell_three_new (w : World) (x y z : Value) (t : TypeId) : ∀ j u, [x, y, z][j]? = some u → (w.alloc (.cells #[x, y, z] t)).cell? ((⟨w.heap.size, 0, none⟩ : Addr).add j) = some u := by
  intro j u h
  have e : (⟨w.heap.size, 0, none⟩ : Addr).add j = ⟨w.heap.size, j, none⟩ := by unfold Addr.add; split <;> simp_all
  rw [e]
  exact ((Blk.new w t [x, y, z]).cell j).trans h
theorem row_lt {w : World} {base e size n c : Nat} {A : Option Addr} {xs : List Value} (h : w.ownsRow base e size (.slice A n c) n xs) : ∀ q, (Value.slice A n c).ownBlock = some q → base ≤ q ∧ q < w.heap.size := by
  intro q hq
  rcases h.2 with ⟨hv, _⟩ | ⟨g, cap, cur, hv, hb, hg, _⟩
  · rw [hv] at hq; simp [Value.ownBlock] at hq
  · rw [hv] at hq
    obtain rfl : g = q := by simpa [Value.ownBlock] using hq
    exact ⟨hb, (Array.getElem?_eq_some_iff.1 hg).1⟩
theorem own_open1 {w : World} {base e n c : Nat} {A : Option Addr} {xs : List Value} (h : w.ownsRow base e 1 (.slice A n c) n xs) (hn : 0 < n) : ∃ g r, A = some ⟨g, 0, none⟩ ∧ base ≤ g ∧ Blk w g e (xs ++ r) ∧ xs.length = n ∧ n + r.length = c := by
  rcases h.2 with ⟨hv, h0⟩ | ⟨g, cap, cur, hv, hb, hg, h1, h2, h3, h4⟩
  · omega
  · obtain ⟨rfl, rfl⟩ : A = some ⟨g, 0, none⟩ ∧ c = cap := by simpa using hv
    have hl := h.1
    rw [Nat.mul_one] at h4 hl
    refine ⟨g, cur.toList.drop n, rfl, hb, ?_, hl, ?_⟩
    · show w.heap[g]? = _
      rw [hg, ← h4, List.take_append_drop]
    · simp
      omega
theorem own_open3 {w : World} {base e n c : Nat} {A : Option Addr} {xs : List Value} (h : w.ownsRow base e 3 (.slice A n c) n xs) (hn : 0 < n) : ∃ g r, A = some ⟨g, 0, none⟩ ∧ base ≤ g ∧ Blk w g e (xs ++ r) ∧ n ≤ c := by
  rcases h.2 with ⟨hv, h0⟩ | ⟨g, cap, cur, hv, hb, hg, h1, h2, h3, h4⟩
  · omega
  · obtain ⟨rfl, rfl⟩ : A = some ⟨g, 0, none⟩ ∧ c = cap := by simpa using hv
    refine ⟨g, cur.toList.drop (n * 3), rfl, hb, ?_, h1⟩
    show w.heap[g]? = _
    rw [hg, ← h4, List.take_append_drop]
/-- Lengths so far: in order, and below the next one. -/
def Asc (zs : List Int) (m : Nat) : Prop := (∀ i, i < zs.length → LenOk zs i) ∧ ∀ z ∈ zs, z < m
theorem Asc.snoc {zs : List Int} {m m' : Nat} (h : Asc zs m) (hm : m ≤ 3600) (hm' : m < m') : Asc (zs ++ [(m : Int)]) m' := by
  constructor
  · intro i hi
    rw [List.length_append, List.length_singleton] at hi
    by_cases e : i < zs.length
    · have h1 := h.1 i e
      unfold LenOk at h1 ⊢
      rw [List.getElem?_append_left e, List.getElem?_append_left (by omega)]
      exact h1
    · obtain rfl : i = zs.length := by omega
      unfold LenOk
      rw [List.getElem?_append_right (Nat.le_refl _)]
      simp only [Nat.sub_self, List.getElem?_cons_zero, Option.getD_some]
      refine ⟨by omega, ?_⟩
      by_cases h0 : zs.length = 0
      · exact .inl h0
      · right
        have hlt : zs.length - 1 < zs.length := by omega
        rw [List.getElem?_append_left hlt, List.getElem?_eq_getElem hlt]
        exact h.2 _ (List.getElem_mem hlt)
  · intro z hz
    rcases List.mem_append.1 hz with hz | hz
    · have := h.2 z hz; omega
    · simp only [List.mem_singleton] at hz
      omega
def Pc7 (p : Pc) : Prop := PcOk p ∧ p.lens.length ≤ 7
theorem valid_of_laid {q : List Laid} {t : Int} (hq : q.length ≤ 10) (ht : 0 ≤ t ∧ t ≤ 3600) (h : ∀ e ∈ q, Pc7 e.p) : ValidS (q.map (·.p)) t ∧ ∀ p ∈ q.map (·.p), p.lens.length ≤ 7 := by
  refine ⟨⟨by rw [List.length_map]; omega, ht, fun p hp => ?_⟩, fun p hp => ?_⟩
  · obtain ⟨e, he, rfl⟩ := List.mem_map.1 hp
    exact (h e he).1
  · obtain ⟨e, he, rfl⟩ := List.mem_map.1 hp
    exact (h e he).2

theorem laid_row {w : World} {base k cap : Nat} {A : Option Addr} {q : List Laid} (hrow : w.ownsRow base 50 3 (.slice A k cap) k (laidCells q)) (hql : q.length = k) (hq : LaidAt w q) (hlen : ∀ e ∈ q, e.p.lens.length ≤ 100) : PcsAt w.heap.size w A (q.map (·.p)) ∧ k ≤ cap := by
  rcases Nat.eq_zero_or_pos k with h0 | h0
  · subst h0
    have : q = [] := List.eq_nil_of_length_eq_zero hql
    subst this
    exact ⟨fun i p hp => by simp at hp, Nat.zero_le _⟩
  · obtain ⟨g, r, rfl, _, hb, hc⟩ := own_open3 hrow h0
    exact ⟨laid_pcs hb hq hlen, hc⟩
def Laid.at_ (e : Laid) (v : Int) : Laid := { e with p := { e.p with join := v } }
theorem laidCells_set : ∀ (q : List Laid) (i : Nat) (e : Laid) (v : Int) (r : List Value), q[i]? = some e → (laidCells q ++ r).set (i * 3 + 2) (.int .i64 v) = laidCells (q.set i (e.at_ v)) ++ r
  | [], i, e, v, r, h => by simp at h
  | f :: q, 0, e, v, r, h => by
    obtain rfl : f = e := by simpa using h
    rfl
  | f :: q, i + 1, e, v, r, h => by
    have := laidCells_set q i e v r (by simpa using h)
    show ([_, _, _] ++ laidCells q ++ r).set ((i + 1) * 3 + 2) _ = [_, _, _] ++ laidCells (q.set i (e.at_ v)) ++ r
    rw [List.append_assoc, List.append_assoc, ← this]
    rw [show (i + 1) * 3 + 2 = (i * 3 + 2) + 3 by omega]
    rfl
theorem app_facts {wx w5 : World} {Bp b t : Nat} {A2 : Option Addr} {T : TypeId} {cs : List Value} {o : Obj} {v : Value} (hB : Blk wx Bp T cs) (hra : ∀ q ∈ (A2.map (·.block)).toList, Bp + 1 ≤ q) (u5 : Upd (A2.map (·.block)).toList (wx.alloc o) w5) (hb : b < Bp) (hg : wx.cell? ⟨b, t, none⟩ = some v) (u : Value) :
    Blk w5 Bp T cs ∧ (w5.setCell ⟨Bp, 0, none⟩ u).cell? ⟨b, t, none⟩ = some v := by
  have h1 : ∀ q, q < Bp + 1 → q ∉ (A2.map (·.block)).toList := fun q hq hm => by have := hra q hm; omega
  have hl := hB.lt
  refine ⟨(hB.alloc o).upd u5 (h1 _ (by omega)), ?_⟩
  rw [World.cell?_setCell_far _ _ _ _ (by show Bp ≠ b; omega)]
  exact (((Upd.refl [] wx).alloc o).mono (l' := (A2.map (·.block)).toList) (by simp) |>.trans u5 (by intro x hx; exact .inl hx) |>.cell (p := ⟨b, t, none⟩) (by show b < _; omega) (h1 _ (by show b < _; omega))).trans hg

theorem made_any7 {n₀ : Nat} (a : Option Addr) (n c : Nat) (xs : List X4) (miss : Int) (w : World) (hX : X4At n₀ w a xs) (hxl : xs.length = n) (hn : n ≤ maxLen) (h0 : n₀ ≤ w.heap.size) (hmiss : (Lit.int .i64 miss).wf = true) :
    Calls Try.prog 11 #[.slice a n c, .int .i64 miss] w fun e w' => ∃ (b : Option Addr) (len cap : Nat) (l : List Pc) (t : Int), e = .returned (.tuple #[.slice b len cap, .int .i64 t]) ∧ l.length = len ∧ len ≤ 10 ∧ len ≤ cap ∧ PcsAt w'.heap.size w' b l ∧ (ValidS l t ∧ ∀ p ∈ l, p.lens.length ≤ 7) ∧ (pickN miss 40 ≤ 20 → ∃ h, fitsS t l 0 h = true) ∧ Upd [] w w' := by
  have hn' : n ≤ 9223372036854775807 := by unfold maxLen at hn; omega
  have HX := hide hX
  have HXL := hide hxl
  have HM := hide hmiss
  clear hX hxl hn hmiss
  go_enter Try.func11, Try.ntmps11
  go_wp2_with fail
  go_loopw [6, 7, 8] (fun s6 s7 s8 wr => ∃ (k at_ : Nat) (A : Option Addr) (cap : Nat) (q : List Laid) (h : List Int), k ≤ n ∧ k ≤ 10 ∧ at_ ≤ 175 * k ∧ q.length = k ∧ s8 = .int .i64 k ∧ s7 = .int .i64 at_ ∧ s6 = .slice A k cap ∧ Hid (Upd [] w wr) ∧
      Hid (wr.ownsRow w.heap.size 50 3 (.slice A k cap) k (laidCells q)) ∧ Hid (LaidAt wr q) ∧ Hid (∀ e ∈ q, w.heap.size ≤ e.g ∧ Pc7 e.p ∧ e.p.join ≤ 1750) ∧ Hid (fitsS at_ (q.map (·.p)) 0 h = true))
    (fun _ _ i _ => 10 - (intOf i).toNat)
  case atStart => exact ⟨0, 0, none, 0, [], [], by omega, by omega, by omega, rfl, rfl, rfl, rfl, Upd.refl _ _, World.ownsRow_nil _ _ _ _, fun e he => by simp at he, fun e he => by simp at he, rfl⟩
  case round =>
    obtain ⟨k, at_, A, cap, q, h, hk, hk10, hat, hql, rfl, rfl, rfl, hu, hrow, hlaid, hall, hfit⟩ := hrel
    by_cases hlt : k < n
    · by_cases hlt10 : k < 10
      · skip
        obtain ⟨x, hx⟩ : ∃ x, xs[k]? = some x := ⟨_, List.getElem?_eq_getElem (by have := HXL.out; omega)⟩
        obtain ⟨b, o, ea, hb, f1, f2, f3, f4, c0, c1, c2, c3⟩ := HX.out k x hx
        subst ea
        have HF1 := hide f1
        have HF2 := hide f2
        have HF3 := hide f3
        have HF4 := hide f4
        have HQL := hide hql
        obtain ⟨W1, hW1⟩ : ∃ W1, wr.alloc (.cells #[.slice none 0 0, .int .i64 0, .int .i64 (-1)] 50) = W1 := ⟨_, rfl⟩
        have u1 : Upd [] wr W1 := by rw [← hW1]; exact (Upd.refl [] wr).alloc _
        have U1 := hide (hu.out.trans u1 (by simp))
        have HWR := hide u1
        obtain ⟨Bp, hBp⟩ : ∃ Bp, wr.heap.size = Bp := ⟨_, rfl⟩
        have hbB : b < Bp := by have := hu.out.size; omega
        have hsz : W1.heap.size = Bp + 1 := by rw [← hW1, ← hBp]; simp
        have cx : ∀ t v, w.cell? ⟨b, t, none⟩ = some v → W1.cell? ⟨b, t, none⟩ = some v := fun t v hv => (U1.out.cell (p := ⟨b, t, none⟩) (by show b < _; omega) (by simp)).trans hv
        have d0 := cx _ _ c0
        have d1 := cx _ _ c1
        have d2 := cx _ _ c2
        have d3 := cx _ _ c3
        have e0 : (wr.alloc (.cells #[.slice none 0 0, .int .i64 0, .int .i64 (-1)] 50)).cell? ⟨b, o + k * 4, none⟩ = some (.int .i64 x.a) := by rw [hW1]; exact d0
        have b1 : Blk W1 Bp 50 [.slice none 0 0, .int .i64 0, .int .i64 (-1)] := by rw [← hW1, ← hBp]; exact Blk.new _ _ _
        have HB1 := hide b1
        have HW1 := hide hW1
        have HBP := hide hBp
        have P0 := hide (fun W => rpick_any x.a 12 W f1 (by omega) (by omega))
        have T12 := tdiv_in f1 (a := 12) (by omega)
        have P1 := hide (fun W => rpick_any (x.a.tdiv 12) 4 W T12.2 (by omega) (by omega))
        have hw12 := T12.1
        obtain ⟨p0, hp0⟩ : ∃ p0 : Nat, pickN x.a 12 = (p0 : Int) := ⟨(pickN x.a 12).toNat, by have := pickN_lt x.a (n := 12) (by omega); omega⟩
        have hp0b : p0 < 12 := by have := pickN_lt x.a (n := 12) (by omega); omega
        obtain ⟨p1, hp1⟩ : ∃ p1 : Nat, pickN (x.a.tdiv 12) 4 = (p1 : Int) := ⟨(pickN (x.a.tdiv 12) 4).toNat, by have := pickN_lt (x.a.tdiv 12) (n := 4) (by omega); omega⟩
        have hp1b : p1 < 4 := by have := pickN_lt (x.a.tdiv 12) (n := 4) (by omega); omega
        have P0' := P0.out
        have P1' := P1.out
        simp only [hp0] at P0'
        simp only [hp1] at P1'
        have Q0 := hide P0'
        have Q1 := hide P1'
        clear P0 P1 P0' P1' hp0 hp1 T12 cx c0 c1 c2 c3 f1 f2 f3 f4 hx hb u1 b1 hW1 hql
        go_wp2_with fail
        refine (Q0.out _).mono ?_
        rintro e w' ⟨rfl, rfl⟩
        rw [HW1.out]
        (try rw [HBP.out])
        clear e0
        go_wp2_with fail
        go_loopw [10, 11] (fun s10 s11 wx => ∃ (j m : Nat) (A2 : Option Addr) (c2 : Nat) (zs : List Int), j ≤ 1 + p1 ∧ s10 = .int .i64 m ∧ s11 = .int .i64 j ∧ zs.length = j ∧ m ≤ 55 + 30 * j ∧ Hid (Blk wx Bp 50 [.slice A2 j c2, .int .i64 0, .int .i64 (-1)]) ∧
            Hid (wx.ownsRow (Bp + 1) 3 1 (.slice A2 j c2) j (zs.map (Value.int .i64))) ∧ Hid (Upd [Bp] W1 wx) ∧ Hid (Asc zs m))
          (fun _ i _ => 5 - (intOf i).toNat)
        case atStart => exact ⟨0, p0 * 5, none, 0, [], by omega, by go_num, rfl, rfl, by omega, HB1, World.ownsRow_nil _ _ _ _, Upd.refl _ _, fun i hi => by simp at hi, fun z hz => by simp at hz⟩
        case round =>
          obtain ⟨j, m, A2, c2, zs, hj, rfl, rfl, hzl, hm, hB, hR, hU, hA⟩ := hrel
          obtain ⟨wx, rfl⟩ : ∃ wx : World, wx = wr := ⟨_, rfl⟩
          have hsx := hU.out.size
          have cy : ∀ t v, W1.cell? ⟨b, t, none⟩ = some v → wx.cell? ⟨b, t, none⟩ = some v := fun t v hv => (hU.out.cell (p := ⟨b, t, none⟩) (by show b < _; omega) (by simp; omega)).trans hv
          have g0 := cy _ _ d0
          have g1 := cy _ _ d1
          have HZL := hide hzl
          clear cy hzl
          by_cases hlt2 : j < 1 + p1
          · have i0 := hB.out.cell 0
            have i1 := hB.out.frozen 0
            have TJ := tdiv_in HF2.out (a := 1 + (j : Int)) (by omega)
            have PJ := hide (fun W => rpick_any (x.b.tdiv (1 + (j : Int))) 30 W TJ.2 (by omega) (by omega))
            have hwJ := TJ.1
            have hjz : ¬ (1 + (j : Int)) = 0 := by omega
            obtain ⟨pj, hpj⟩ : ∃ pj : Nat, pickN (x.b.tdiv (1 + (j : Int))) 30 = (pj : Int) := ⟨(pickN (x.b.tdiv (1 + (j : Int))) 30).toNat, by have := pickN_lt (x.b.tdiv (1 + (j : Int))) (n := 30) (by omega); omega⟩
            have hpjb : pj < 30 := by have := pickN_lt (x.b.tdiv (1 + (j : Int))) (n := 30) (by omega); omega
            have PJ' := PJ.out
            simp only [hpj] at PJ'
            have QJ := hide PJ'
            have O1 := hide (show ∀ u ∈ [Value.int .i64 (m : Int)], u.oneCell' = true by simp [Value.oneCell'])
            have O3 := hide (show j + 1 ≤ maxLen by unfold maxLen; omega)
            have O4 := hide (show (j + 1) * 8 ≤ 140737488355328 by omega)
            have OB := hide (hR.out.alloc (.cells #[.int .i64 (m : Int)] 3))
            have HSX := hide hsx
            have hra : ∀ q ∈ (A2.map (·.block)).toList, Bp + 1 ≤ q := fun q hq => (row_lt hR.out q (by rw [ownBlock_slice]; simpa using hq)).1
            have HRA := hide hra
            have HBB := hide hB.out
            have HG1 := hide g1
            have HBL := hide hbB
            clear PJ PJ' hpj TJ hsx hra
            go_wp2_with fail
            refine (Q1.out _).mono ?_
            rintro e w' ⟨rfl, rfl⟩
            go_wp2_with (at_builtin; refine wpList_append_base rfl (.tmp 46) (.tmp 48) _ rfl (Bp + 1) 3 _ 1 8 Try.underlying24 info_int rfl (by decide) A2 j c2 _ rfl OB.out ⟨wx.heap.size, 0, none⟩ 1 1 [.int .i64 (m : Int)] rfl rfl (cell_one_new _ _ _) O1.out O3.out O4.out (by have := HSX.out; simp; omega) ?_; intro A3 c3 w5 h5 u5 a5; have H5 := hide h5; have U5 := hide u5; have af := app_facts HBB.out HRA.out u5 HBL.out HG1.out (.slice A3 (j + 1) c3); have B5 := hide af.1; have q0 := af.1.cell 0; have q1 := af.1.frozen 0; have q2 := af.2; clear af; clear h5 u5 a5)
            refine (QJ.out _).mono ?_
            rintro e w' ⟨rfl, rfl⟩
            go_wp2_with fail
            have us := (Upd.refl [Bp] w5).setCell (p := ⟨Bp, 0, none⟩) (.inl (by simp)) (.slice A3 (j + 1) c3)
            have R6 := own_kept H5.out us (fun q hq => by have := (row_lt H5.out q hq).1; simp; omega)
            have B6 := B5.out.set_ 0 (.slice A3 (j + 1) c3)
            have U6 := ((hU.out.alloc (.cells #[.int .i64 (m : Int)] 3)).trans U5.out (fun q hq => by have := HRA.out q hq; right; omega)).trans us (by simp)
            have HR6 := hide R6
            have HB6 := hide B6
            have HU6 := hide U6
            clear us R6 B6 U6
            go_roundw
            case rel => exact ⟨j + 1, m + 1 + pj, A3, c3, zs ++ [(m : Int)], by omega, by go_num, by go_num, by have := HZL.out; simp; omega, by omega, hide (by have := HB6.out; simpa using this), hide (by have := HR6.out; simpa using this), HU6.out, hA.out.snoc (by omega) (by omega)⟩
            case measure => simp [intOf] <;> omega
          · obtain rfl : j = 1 + p1 := by omega
            obtain ⟨gl, rl, rfl, hgl, hbl, _, hlc⟩ := own_open1 hR.out (by omega)
            have g2 := (hU.out.cell (p := ⟨b, o + k * 4 + 2, none⟩) (by show b < _; omega) (by simp; omega)).trans d2
            have g3 := (hU.out.cell (p := ⟨b, o + k * 4 + 3, none⟩) (by show b < _; omega) (by simp; omega)).trans d3
            have P2 := hide (fun W => rpick_any x.c 3 W HF3.out (by omega) (by omega))
            obtain ⟨p2, hp2⟩ : ∃ p2 : Nat, pickN x.c 3 = (p2 : Int) := ⟨(pickN x.c 3).toNat, by have := pickN_lt x.c (n := 3) (by omega); omega⟩
            have P2' := P2.out
            simp only [hp2] at P2'
            have Q2 := hide P2'
            have P3 := hide (fun W => rpick_any x.d 200 W HF4.out (by omega) (by omega))
            obtain ⟨p3, hp3⟩ : ∃ p3 : Nat, pickN x.d 200 = (p3 : Int) := ⟨(pickN x.d 200).toNat, by have := pickN_lt x.d (n := 200) (by omega); omega⟩
            have hp3b : p3 < 200 := by have := pickN_lt x.d (n := 200) (by omega); omega
            have P3' := P3.out
            simp only [hp3] at P3'
            have Q3 := hide P3'
            have T3 := tdiv_in HF3.out (a := 3) (by omega)
            have PYa := hide (fun W => rpick_any (x.c.tdiv 3) (1 + (p1 : Int)) W T3.2 (by omega) (by omega))
            have hw3 := T3.1
            obtain ⟨y, hy⟩ : ∃ y : Nat, pickN (x.c.tdiv 3) (1 + (p1 : Int)) = (y : Int) := ⟨(pickN (x.c.tdiv 3) (1 + (p1 : Int))).toNat, by have := pickN_lt (x.c.tdiv 3) (n := 1 + (p1 : Int)) (by omega); omega⟩
            have hyb : y < 1 + p1 := by have := pickN_lt (x.c.tdiv 3) (n := 1 + (p1 : Int)) (by omega); omega
            have PY' := PYa.out
            simp only [hy] at PY'
            have PY := hide PY'
            obtain ⟨z, hz⟩ : ∃ z, zs[y]? = some z := ⟨_, List.getElem?_eq_getElem (by have := HZL.out; omega)⟩
            have hzb : 0 ≤ z ∧ z ≤ 175 := by
              have h1 := (hA.out.1 y (by have := HZL.out; omega)).1
              rw [hz] at h1
              have h2 := hA.out.2 z (List.mem_of_getElem? hz)
              simp only [Option.getD_some] at h1
              omega
            obtain ⟨zn, rfl⟩ : ∃ zn : Nat, z = (zn : Int) := ⟨z.toNat, by omega⟩
            have hzn : zn ≤ 175 := by omega
            have hyi : (y : Int) < 1 + (p1 : Int) := by omega
            have HZ := hide hz
            have HBL := hide hbl
            have i2 := hB.out.cell 2
            have i3 := hB.out.frozen 2
            have HBB := hide hbB
            have HGL := hide hgl
            have hwsum : IntKind.i64.wrap ((at_ : Int) + (zn : Int)) = (at_ : Int) + (zn : Int) := Go.IntWalk.i64_in _ (by omega)
            have O1 : Hid (∀ jo : Int, ∀ u ∈ [Value.slice (some ⟨gl, 0, none⟩) (1 + p1) c2, .int .i64 (p3 : Int), .int .i64 jo], u.oneCell' = true) := fun jo => by simp [Value.oneCell']
            have O3 := hide (show k + 1 ≤ maxLen by unfold maxLen; omega)
            have O4 := hide (show (k + 1) * 40 ≤ 140737488355328 by omega)
            have HLC := hide hlc
            clear P2 P2' P3 P3' PYa PY' hp2 hp3 hy hz hbl T3 hzb hgl hlc
            go_wp2_with fail
            refine (Q1.out _).mono ?_
            rintro e w' ⟨rfl, rfl⟩
            go_wp2_with fail
            refine (Q2.out _).mono ?_
            rintro e w' ⟨rfl, rfl⟩
            by_cases hp20 : p2 = 0
            · have hj0 : (p2 : Int) = 0 := by omega
              have BJ := hide (show Blk (wx.setCell ⟨Bp, 2, none⟩ (.int .i64 (at_ : Int))) Bp 50 [.slice (some ⟨gl, 0, none⟩) (1 + p1) c2, .int .i64 0, .int .i64 (at_ : Int)] by first | exact hB.out | (have := hB.out.set_ 2 (.int .i64 (at_ : Int)); simpa using this))
              have UJ := hide (show Upd [Bp] W1 (wx.setCell ⟨Bp, 2, none⟩ (.int .i64 (at_ : Int))) by first | exact hU.out | exact hU.out.setCell (.inl (by simp)) _)
              have k3 : ((wx.setCell ⟨Bp, 2, none⟩ (.int .i64 (at_ : Int)))).cell? ⟨b, o + k * 4 + 3, none⟩ = some (.int .i64 x.d) := by first | exact g3 | exact (World.cell?_setCell_far _ _ _ _ (by show Bp ≠ b; have := HBB.out; omega)).trans g3
              have k1 := BJ.out.cell 1
              have k2 := BJ.out.frozen 1
              go_wp2_with fail
              refine (Q3.out _).mono ?_
              rintro e w' ⟨rfl, rfl⟩
              have B3 := hide (show Blk (((wx.setCell ⟨Bp, 2, none⟩ (.int .i64 (at_ : Int)))).setCell ⟨Bp, 1, none⟩ (.int .i64 (p3 : Int))) Bp 50 [.slice (some ⟨gl, 0, none⟩) (1 + p1) c2, .int .i64 (p3 : Int), .int .i64 (at_ : Int)] by have := BJ.out.set_ 1 (.int .i64 (p3 : Int)); simpa using this)
              have U3 := hide (UJ.out.setCell (p := ⟨Bp, 1, none⟩) (.inl (by simp)) (.int .i64 (p3 : Int)))
              obtain ⟨W3, hW3⟩ : ∃ W3, ((wx.setCell ⟨Bp, 2, none⟩ (.int .i64 (at_ : Int)))).setCell ⟨Bp, 1, none⟩ (.int .i64 (p3 : Int)) = W3 := ⟨_, rfl⟩
              rw [hW3] at B3 U3
              have HW3 := hide hW3
              have v0 := B3.out.cell 0
              have v1 : W3.cell? ⟨b, o + k * 4 + 2, none⟩ = some (.int .i64 x.c) := (U3.out.cell (p := ⟨b, o + k * 4 + 2, none⟩) (by show b < _; have := HBB.out; omega) (by have := HBB.out; simp; omega)).trans d2
              have L3 := hide (show Blk W3 gl 3 (zs.map (Value.int .i64) ++ rl) by
                have us : Upd [Bp] wx W3 := by
                  rw [← hW3]
                  first | exact (Upd.refl [Bp] wx).setCell (.inl (by simp)) _ | exact ((Upd.refl [Bp] wx).setCell (.inl (by simp)) _).setCell (.inl (by simp)) _
                exact HBL.out.upd us (by have := HGL.out; simp; omega))
              have v2 : W3.cell? ⟨gl, y, none⟩ = some (.int .i64 (zn : Int)) := by
                rw [L3.out.cell, List.getElem?_append_left (by rw [List.length_map]; have := HZL.out; omega)]
                exact ints_cells HZ.out
              clear hW3
              go_wp2_with fail
              rw [HW3.out]
              refine wp_region_held_drew (S := (fun w' => w'.cell? ⟨Bp, 0, none⟩ = some (.slice (some ⟨gl, 0, none⟩) (1 + p1) c2) ∧ w'.cell? ⟨b, o + k * 4 + 2, none⟩ = some (.int .i64 x.c) ∧ w'.cell? ⟨gl, y, none⟩ = some (.int .i64 (zn : Int)))) (by kernel_rfl) (by exact ⟨v0, v1, v2⟩) (fun hHeld => ?_)
              refine wpAnyH_take (i := 0) (oi := ?oi0P) (v := ?v0P) ?oi0_0P (by kernel_rfl) ?ff0P ?rr0P ?hq0P (Or.inl ⟨?hw0P, ?hy0P⟩) (by assumption) ?rest0P
              case oi0_0P =>
                conv =>
                  lhs
                  whnf
                  arg 1
                  whnf
              case hq0P => exact fun _ _ _ h => h
              case ff0P => kernel_rfl
              case rr0P => kernel_rfl
              case hw0P => rfl
              case hy0P =>
                intro w hSw
                (try dsimp only at hSw)
                first
                | (go_simp; done)
                | (go_simp; with_reducible rfl)
              try simp only [Act.put, List.setIfInBounds_toArray, List.set_cons_zero, List.set_cons_succ]
              refine wpAnyH_take (i := 1) (oi := ?oi1P) (v := ?v1P) ?oi0_1P (by kernel_rfl) ?ff1P ?rr1P ?hq1P (Or.inl ⟨?hw1P, ?hy1P⟩) (by assumption) ?rest1P
              case oi0_1P =>
                conv =>
                  lhs
                  whnf
                  arg 1
                  whnf
              case hq1P => exact fun _ _ _ h => h
              case ff1P => kernel_rfl
              case rr1P => kernel_rfl
              case hw1P => rfl
              case hy1P =>
                intro w hSw
                (try dsimp only at hSw)
                first
                | (go_simp; done)
                | (go_simp; with_reducible rfl)
              try simp only [Act.put, List.setIfInBounds_toArray, List.set_cons_zero, List.set_cons_succ]
              refine wpAnyH_take (i := 2) (oi := ?oi2P) (v := ?v2P) ?oi0_2P (by kernel_rfl) ?ff2P ?rr2P ?hq2P (Or.inl ⟨?hw2P, ?hy2P⟩) (by assumption) ?rest2P
              case oi0_2P =>
                conv =>
                  lhs
                  whnf
                  arg 1
                  whnf
              case hq2P => exact fun _ _ _ h => h
              case ff2P => kernel_rfl
              case rr2P => kernel_rfl
              case hw2P => rfl
              case hy2P =>
                intro w hSw
                (try dsimp only at hSw)
                first
                | (go_simp; done)
                | (go_simp; with_reducible rfl)
              try simp only [Act.put, List.setIfInBounds_toArray, List.set_cons_zero, List.set_cons_succ]
              refine wpAnyH_take (i := 3) (oi := ?oi3P) (v := ?v3P) ?oi0_3P (by kernel_rfl) ?ff3P ?rr3P ?hq3P (Or.inl ⟨?hw3P, ?hy3P⟩) (by assumption) ?rest3P
              case oi0_3P =>
                conv =>
                  lhs
                  whnf
                  arg 1
                  whnf
              case hq3P => exact fun _ _ _ h => h
              case ff3P => kernel_rfl
              case rr3P => kernel_rfl
              case hw3P => rfl
              case hy3P =>
                intro w hSw
                (try dsimp only at hSw)
                first
                | (go_simp; done)
                | (go_simp; with_reducible rfl)
              try simp only [Act.put, List.setIfInBounds_toArray, List.set_cons_zero, List.set_cons_succ]
              refine wpAnyH_take (i := 4) (oi := ?oi4P) (v := ?v4P) ?oi0_4P (by kernel_rfl) ?ff4P ?rr4P ?hq4P (Or.inl ⟨?hw4P, ?hy4P⟩) (by assumption) ?rest4P
              case oi0_4P =>
                conv =>
                  lhs
                  whnf
                  arg 1
                  whnf
              case hq4P => exact fun _ _ _ h => h
              case ff4P => kernel_rfl
              case rr4P => kernel_rfl
              case hw4P => rfl
              case hy4P =>
                intro w hSw
                (try dsimp only at hSw)
                first
                | (go_simp; done)
                | (go_simp; with_reducible rfl)
              try simp only [Act.put, List.setIfInBounds_toArray, List.set_cons_zero, List.set_cons_succ]
              refine wpAnyH_take (i := 5) (oi := ?oi5P) (v := ?v5P) ?oi0_5P (by kernel_rfl) ?ff5P ?rr5P ?hq5P (Or.inl ⟨?hw5P, ?hy5P⟩) (by assumption) ?rest5P
              case oi0_5P =>
                conv =>
                  lhs
                  whnf
                  arg 1
                  whnf
              case hq5P => exact fun _ _ _ h => h
              case ff5P => kernel_rfl
              case rr5P => kernel_rfl
              case hw5P => rfl
              case hy5P =>
                intro w hSw
                (try dsimp only at hSw)
                first
                | (go_simp; done)
                | (go_simp; with_reducible rfl)
              try simp only [Act.put, List.setIfInBounds_toArray, List.set_cons_zero, List.set_cons_succ]
              refine wpAnyH_take (i := 6) (oi := ?oi6P) (v := ?v6P) ?oi0_6P (by kernel_rfl) ?ff6P ?rr6P ?hq6P (Or.inl ⟨?hw6P, ?hy6P⟩) (by assumption) ?rest6P
              case oi0_6P =>
                conv =>
                  lhs
                  whnf
                  arg 1
                  whnf
              case hq6P => exact fun _ _ _ h => h
              case ff6P => kernel_rfl
              case rr6P => kernel_rfl
              case hw6P => rfl
              case hy6P =>
                intro w hSw
                (try dsimp only at hSw)
                first
                | (go_simp; done)
                | (go_simp; with_reducible rfl)
              try simp only [Act.put, List.setIfInBounds_toArray, List.set_cons_zero, List.set_cons_succ]
              refine wpAnyH_take (i := 7) (oi := ?oi7P) (v := ?v7P) ?oi0_7P (by kernel_rfl) ?ff7P ?rr7P ?hq7P (Or.inl ⟨?hw7P, ?hy7P⟩) (by assumption) ?rest7P
              case oi0_7P =>
                conv =>
                  lhs
                  whnf
                  arg 1
                  whnf
              case hq7P => exact fun _ _ _ h => h
              case ff7P => kernel_rfl
              case rr7P => kernel_rfl
              case hw7P => rfl
              case hy7P =>
                intro w hSw
                (try dsimp only at hSw)
                first
                | (go_simp; done)
                | (go_simp; with_reducible rfl)
              try simp only [Act.put, List.setIfInBounds_toArray, List.set_cons_zero, List.set_cons_succ]
              refine wpAnyH_take (i := 8) (oi := ?oi8P) (v := ?v8P) ?oi0_8P (by kernel_rfl) ?ff8P ?rr8P ?hq8P (Or.inl ⟨?hw8P, ?hy8P⟩) (by assumption) ?rest8P
              case oi0_8P =>
                conv =>
                  lhs
                  whnf
                  arg 1
                  whnf
              case hq8P => exact fun _ _ _ h => h
              case ff8P => kernel_rfl
              case rr8P => kernel_rfl
              case hw8P => rfl
              case hy8P =>
                intro w hSw
                (try dsimp only at hSw)
                first
                | (go_simp; done)
                | (go_simp; with_reducible rfl)
              try simp only [Act.put, List.setIfInBounds_toArray, List.set_cons_zero, List.set_cons_succ]
              refine wpAnyH_take (i := 9) (oi := ?oi9P) (v := ?v9P) ?oi0_9P (by kernel_rfl) ?ff9P ?rr9P ?hq9P (Or.inl ⟨?hw9P, ?hy9P⟩) (by assumption) ?rest9P
              case oi0_9P =>
                conv =>
                  lhs
                  whnf
                  arg 1
                  whnf
              case hq9P => exact fun _ _ _ h => h
              case ff9P => kernel_rfl
              case rr9P => kernel_rfl
              case hw9P => rfl
              case hy9P =>
                intro w hSw
                (try dsimp only at hSw)
                first
                | (go_simp; done)
                | (go_simp; with_reducible rfl)
              try simp only [Act.put, List.setIfInBounds_toArray, List.set_cons_zero, List.set_cons_succ]
              refine wpAnyH_take (i := 10) (oi := ?oi10P) (v := ?v10P) ?oi0_10P (by kernel_rfl) ?ff10P ?rr10P ?hq10P (Or.inl ⟨?hw10P, ?hy10P⟩) (by assumption) ?rest10P
              case oi0_10P =>
                conv =>
                  lhs
                  whnf
                  arg 1
                  whnf
              case hq10P => exact fun _ _ _ h => h
              case ff10P => kernel_rfl
              case rr10P => kernel_rfl
              case hw10P => rfl
              case hy10P =>
                intro w hSw
                (try dsimp only at hSw)
                first
                | (go_simp; done)
                | (go_simp; with_reducible rfl)
              try simp only [Act.put, List.setIfInBounds_toArray, List.set_cons_zero, List.set_cons_succ]
              refine wpAnyH_take (i := 11) (oi := ?oi11P) (v := ?v11P) ?oi0_11P (by kernel_rfl) ?ff11P ?rr11P ?hq11P (Or.inl ⟨?hw11P, ?hy11P⟩) (by assumption) ?rest11P
              case oi0_11P =>
                conv =>
                  lhs
                  whnf
                  arg 1
                  whnf
              case hq11P => exact fun _ _ _ h => h
              case ff11P => kernel_rfl
              case rr11P => kernel_rfl
              case hw11P => rfl
              case hy11P =>
                intro w hSw
                (try dsimp only at hSw)
                first
                | (go_simp; done)
                | (go_simp; with_reducible rfl)
              try simp only [Act.put, List.setIfInBounds_toArray, List.set_cons_zero, List.set_cons_succ]
              refine wpAnyH_ready (rs := [12]) (by kernel_rfl) (by simp) (AllReadyH.cons (o := ?oi12P) ?oi0_12P (fun K hK => ?_) AllReadyH.nil)
              case oi0_12P =>
                conv =>
                  lhs
                  whnf
                  arg 1
                  whnf
              go_simp
              go_at_call 40
              have TT := PY.out W3.drew
              with_reducible (refine TT.mono ?_)
              clear TT
              rintro e w' ⟨rfl, rfl⟩
              (try dsimp only)
              refine hK.out _ _ (by exact ⟨v0, v1, v2⟩) (fun hHeld => ?_)
              clear hK K
              try simp only [Act.put, List.setIfInBounds_toArray, List.set_cons_zero, List.set_cons_succ]
              refine wpAnyH_take (i := 13) (oi := ?oi13P) (v := ?v13P) ?oi0_13P (by kernel_rfl) ?ff13P ?rr13P ?hq13P (Or.inl ⟨?hw13P, ?hy13P⟩) (by assumption) ?rest13P
              case oi0_13P =>
                conv =>
                  lhs
                  whnf
                  arg 1
                  whnf
              case hq13P => exact fun _ _ _ h => h
              case ff13P => kernel_rfl
              case rr13P => kernel_rfl
              case hw13P => rfl
              case hy13P =>
                intro w hSw
                (try dsimp only at hSw)
                first
                | (go_simp; done)
                | (go_simp; with_reducible rfl)
              try simp only [Act.put, List.setIfInBounds_toArray, List.set_cons_zero, List.set_cons_succ]
              refine wpAnyH_take (i := 14) (oi := ?oi14P) (v := ?v14P) ?oi0_14P (by kernel_rfl) ?ff14P ?rr14P ?hq14P (Or.inl ⟨?hw14P, ?hy14P⟩) (by assumption) ?rest14P
              case oi0_14P =>
                conv =>
                  lhs
                  whnf
                  arg 1
                  whnf
              case hq14P => exact fun _ _ _ h => h
              case ff14P => kernel_rfl
              case rr14P => kernel_rfl
              case hw14P => rfl
              case hy14P =>
                intro w hSw
                (try dsimp only at hSw)
                first
                | (go_simp; done)
                | (go_simp; with_reducible rfl)
              try simp only [Act.put, List.setIfInBounds_toArray, List.set_cons_zero, List.set_cons_succ]
              refine wpAnyH_take (i := 15) (oi := ?oi15P) (v := ?v15P) ?oi0_15P (by kernel_rfl) ?ff15P ?rr15P ?hq15P (Or.inl ⟨?hw15P, ?hy15P⟩) (by assumption) ?rest15P
              case oi0_15P =>
                conv =>
                  lhs
                  whnf
                  arg 1
                  whnf
              case hq15P => exact fun _ _ _ h => h
              case ff15P => kernel_rfl
              case rr15P => kernel_rfl
              case hw15P => rfl
              case hy15P =>
                intro w hSw
                (try dsimp only at hSw)
                first
                | (go_simp; done)
                | (go_simp; with_reducible rfl)
              try simp only [Act.put, List.setIfInBounds_toArray, List.set_cons_zero, List.set_cons_succ]
              refine wpAnyH_take (i := 16) (oi := ?oi16P) (v := ?v16P) ?oi0_16P (by kernel_rfl) ?ff16P ?rr16P ?hq16P (Or.inl ⟨?hw16P, ?hy16P⟩) (by assumption) ?rest16P
              case oi0_16P =>
                conv =>
                  lhs
                  whnf
                  arg 1
                  whnf
              case hq16P => exact fun _ _ _ h => h
              case ff16P => kernel_rfl
              case rr16P => kernel_rfl
              case hw16P => rfl
              case hy16P =>
                intro w hSw
                (try dsimp only at hSw)
                first
                | (go_simp; done)
                | (go_simp; with_reducible rfl)
              try simp only [Act.put, List.setIfInBounds_toArray, List.set_cons_zero, List.set_cons_succ]
              refine wpAnyH_done (by kernel_rfl) ?_ _
              have B4 := hide (B3.out.drew)
              have L4 := hide (L3.out.drew)
              have U4 := hide (((Upd.refl [] w).trans U1.out (by simp)).mono (l' := [Bp]) (by simp) |>.trans U3.out.drew (by simp))
              obtain ⟨W4, hW4⟩ : ∃ W4, W3.drew = W4 := ⟨_, rfl⟩
              rw [hW4] at B4 L4 U4
              have HW4 := hide hW4
              have n0 := B4.out.cell 0
              have n1 := B4.out.cell 1
              have n2 := B4.out.cell 2
              have hsz4 : Bp + 1 ≤ W4.heap.size := by have := U3.out.drew.size; rw [hW4] at this; omega
              have R4 := own_kept hrow.out (show Upd [Bp] wr W4 by rw [← hW4]; exact (HWR.out.mono (l' := [Bp]) (by simp)).trans U3.out.drew (by simp)) (fun q hq => by have := (row_lt hrow.out q hq).2; have := HBP.out; simp; omega)
              have LA4 := hide (hlaid.out.upd (show Upd [Bp] wr W4 by rw [← hW4]; exact (HWR.out.mono (l' := [Bp]) (by simp)).trans U3.out.drew (by simp)) (fun e he => by have := (hlaid.out e he).lt; have := HBP.out; simp; omega))
              have OB := hide (R4.alloc (.cells #[.slice (some ⟨gl, 0, none⟩) (1 + p1) c2, .int .i64 (p3 : Int), .int .i64 (at_ : Int)] 50))
              have HR4 := hide R4
              have hsw : w.heap.size ≤ W4.heap.size := by have := hu.out.size; have := HBP.out; omega
              have HSW := hide hsw
              clear hW4 R4 hsw
              rw [HW4.out]
              go_wp2_with (at_builtin; refine wpList_append_base rfl (.tmp 95) (.tmp 97) _ rfl w.heap.size 50 _ 3 40 Try.underlying22 info_piece rfl (by decide) A k cap (laidCells q) rfl OB.out ⟨W4.heap.size, 0, none⟩ 1 1 [.slice (some ⟨gl, 0, none⟩) (1 + p1) c2, .int .i64 (p3 : Int), .int .i64 (at_ : Int)] rfl rfl (cell_three_new _ _ _ _ _) (O1.out _) O3.out O4.out (by have := HSW.out; simp; omega) ?_; intro A5 c5 w9 h9 u9 a9; have H9 := hide h9; have U9 := hide u9; clear h9 u9 a9)
              have hra : ∀ g ∈ (A.map (·.block)).toList, w.heap.size ≤ g := fun g hg => (row_lt hrow.out g (by rw [ownBlock_slice]; simpa using hg)).1
              have hrn : ∀ e ∈ q, e.g ∉ (A.map (·.block)).toList := fun e he hm => own_blk_ne HR4.out (LA4.out e he) (by decide) e.g (by rw [ownBlock_slice]; simpa using hm) rfl
              have hrg : gl ∉ (A.map (·.block)).toList := fun hm => own_blk_ne HR4.out L4.out (by decide) gl (by rw [ownBlock_slice]; simpa using hm) rfl
              have ua := (Upd.refl [] W4).alloc (.cells #[.slice (some ⟨gl, 0, none⟩) (1 + p1) c2, .int .i64 (p3 : Int), .int .i64 (at_ : Int)] 50)
              have HE := hide (show laidCells (q ++ [⟨⟨zs, (p3 : Int), (at_ : Int)⟩, gl, c2, rl⟩]) = laidCells q ++ [.slice (some ⟨gl, 0, none⟩) (1 + p1) c2, .int .i64 (p3 : Int), .int .i64 (at_ : Int)] by rw [laidCells_snoc]; have := HZL.out; simp [this])
              have V1 := hide (show Upd [] w w9 from (((U4.out.trans ua (by simp)).trans U9.out (fun g hg => by right; exact hra g hg)).mono (fun g hg => by right; simp at hg; have := hu.out.size; have := HBP.out; omega)))
              have V2 := hide (show w9.ownsRow w.heap.size 50 3 (.slice A5 (k + 1) c5) (k + 1) (laidCells (q ++ [⟨⟨zs, (p3 : Int), (at_ : Int)⟩, gl, c2, rl⟩])) by rw [HE.out]; exact H9.out)
              have V3 := hide (show LaidAt w9 (q ++ [⟨⟨zs, (p3 : Int), (at_ : Int)⟩, gl, c2, rl⟩]) from fun e he => by
                rcases List.mem_append.1 he with he | he
                · exact ((LA4.out e he).upd ua (by simp)).upd U9.out (hrn e he)
                · obtain rfl : e = ⟨⟨zs, (p3 : Int), (at_ : Int)⟩, gl, c2, rl⟩ := by simpa using he
                  exact ((L4.out).upd ua (by simp)).upd U9.out hrg)
              have V4 := hide (show ∀ e ∈ (q ++ [⟨⟨zs, (p3 : Int), (at_ : Int)⟩, gl, c2, rl⟩] : List Laid), w.heap.size ≤ e.g ∧ Pc7 e.p ∧ e.p.join ≤ 1750 from fun e he => by
                rcases List.mem_append.1 he with he | he
                · exact hall.out e he
                · obtain rfl : e = ⟨⟨zs, (p3 : Int), (at_ : Int)⟩, gl, c2, rl⟩ := by simpa using he
                  have h1 := hu.out.size
                  have h2 := HBP.out
                  have h3 := HGL.out
                  have h4 := HZL.out
                  refine ⟨by show w.heap.size ≤ gl; omega, ⟨⟨⟨by show 1 ≤ zs.length; omega, by show zs.length ≤ 8; omega⟩, ⟨by show (0 : Int) ≤ p3; omega, by show (p3 : Int) ≤ 3600; omega⟩, ⟨by show (-1 : Int) ≤ (at_ : Int); omega, by show ((at_ : Int) : Int) ≤ 3600; omega⟩, hA.out.1⟩, by show zs.length ≤ 7; omega⟩, by show ((at_ : Int) : Int) ≤ 1750; omega⟩)
              have V5 := hide (show fitsS ((at_ + zn : Nat) : Int) ((q ++ [⟨⟨zs, (p3 : Int), (at_ : Int)⟩, gl, c2, rl⟩] : List Laid).map (·.p)) 0 (h ++ [(zn : Int)]) = true by
                have e : ((at_ + zn : Nat) : Int) = (at_ : Int) + (zn : Int) := by omega
                rw [e, List.map_append]
                exact fitsS_snoc (p := ⟨zs, (p3 : Int), (at_ : Int)⟩) (List.mem_of_getElem? HZ.out) hfit.out (by simp [meetsS]))
              go_roundw
              case rel => exact ⟨k + 1, at_ + zn, A5, c5, q ++ [⟨⟨zs, (p3 : Int), (at_ : Int)⟩, gl, c2, rl⟩], h ++ [(zn : Int)], by omega, by omega, by omega, by have := HQL.out; simp; omega, by go_num, by go_num, rfl, V1, V2, V3, V4, V5⟩
              case measure => simp [intOf] <;> omega
            · have hj0 : ¬ (p2 : Int) = 0 := by omega
              have BJ := hide (show Blk wx Bp 50 [.slice (some ⟨gl, 0, none⟩) (1 + p1) c2, .int .i64 0, .int .i64 (-1)] by first | exact hB.out | (have := hB.out.set_ 2 (.int .i64 (at_ : Int)); simpa using this))
              have UJ := hide (show Upd [Bp] W1 wx by first | exact hU.out | exact hU.out.setCell (.inl (by simp)) _)
              have k3 : (wx).cell? ⟨b, o + k * 4 + 3, none⟩ = some (.int .i64 x.d) := by first | exact g3 | exact (World.cell?_setCell_far _ _ _ _ (by show Bp ≠ b; have := HBB.out; omega)).trans g3
              have k1 := BJ.out.cell 1
              have k2 := BJ.out.frozen 1
              go_wp2_with fail
              refine (Q3.out _).mono ?_
              rintro e w' ⟨rfl, rfl⟩
              have B3 := hide (show Blk ((wx).setCell ⟨Bp, 1, none⟩ (.int .i64 (p3 : Int))) Bp 50 [.slice (some ⟨gl, 0, none⟩) (1 + p1) c2, .int .i64 (p3 : Int), .int .i64 (-1)] by have := BJ.out.set_ 1 (.int .i64 (p3 : Int)); simpa using this)
              have U3 := hide (UJ.out.setCell (p := ⟨Bp, 1, none⟩) (.inl (by simp)) (.int .i64 (p3 : Int)))
              obtain ⟨W3, hW3⟩ : ∃ W3, (wx).setCell ⟨Bp, 1, none⟩ (.int .i64 (p3 : Int)) = W3 := ⟨_, rfl⟩
              rw [hW3] at B3 U3
              have HW3 := hide hW3
              have v0 := B3.out.cell 0
              have v1 : W3.cell? ⟨b, o + k * 4 + 2, none⟩ = some (.int .i64 x.c) := (U3.out.cell (p := ⟨b, o + k * 4 + 2, none⟩) (by show b < _; have := HBB.out; omega) (by have := HBB.out; simp; omega)).trans d2
              have L3 := hide (show Blk W3 gl 3 (zs.map (Value.int .i64) ++ rl) by
                have us : Upd [Bp] wx W3 := by
                  rw [← hW3]
                  first | exact (Upd.refl [Bp] wx).setCell (.inl (by simp)) _ | exact ((Upd.refl [Bp] wx).setCell (.inl (by simp)) _).setCell (.inl (by simp)) _
                exact HBL.out.upd us (by have := HGL.out; simp; omega))
              have v2 : W3.cell? ⟨gl, y, none⟩ = some (.int .i64 (zn : Int)) := by
                rw [L3.out.cell, List.getElem?_append_left (by rw [List.length_map]; have := HZL.out; omega)]
                exact ints_cells HZ.out
              clear hW3
              go_wp2_with fail
              rw [HW3.out]
              refine wp_region_held_drew (S := (fun w' => w'.cell? ⟨Bp, 0, none⟩ = some (.slice (some ⟨gl, 0, none⟩) (1 + p1) c2) ∧ w'.cell? ⟨b, o + k * 4 + 2, none⟩ = some (.int .i64 x.c) ∧ w'.cell? ⟨gl, y, none⟩ = some (.int .i64 (zn : Int)))) (by kernel_rfl) (by exact ⟨v0, v1, v2⟩) (fun hHeld => ?_)
              refine wpAnyH_take (i := 0) (oi := ?oi0Q) (v := ?v0Q) ?oi0_0Q (by kernel_rfl) ?ff0Q ?rr0Q ?hq0Q (Or.inl ⟨?hw0Q, ?hy0Q⟩) (by assumption) ?rest0Q
              case oi0_0Q =>
                conv =>
                  lhs
                  whnf
                  arg 1
                  whnf
              case hq0Q => exact fun _ _ _ h => h
              case ff0Q => kernel_rfl
              case rr0Q => kernel_rfl
              case hw0Q => rfl
              case hy0Q =>
                intro w hSw
                (try dsimp only at hSw)
                first
                | (go_simp; done)
                | (go_simp; with_reducible rfl)
              try simp only [Act.put, List.setIfInBounds_toArray, List.set_cons_zero, List.set_cons_succ]
              refine wpAnyH_take (i := 1) (oi := ?oi1Q) (v := ?v1Q) ?oi0_1Q (by kernel_rfl) ?ff1Q ?rr1Q ?hq1Q (Or.inl ⟨?hw1Q, ?hy1Q⟩) (by assumption) ?rest1Q
              case oi0_1Q =>
                conv =>
                  lhs
                  whnf
                  arg 1
                  whnf
              case hq1Q => exact fun _ _ _ h => h
              case ff1Q => kernel_rfl
              case rr1Q => kernel_rfl
              case hw1Q => rfl
              case hy1Q =>
                intro w hSw
                (try dsimp only at hSw)
                first
                | (go_simp; done)
                | (go_simp; with_reducible rfl)
              try simp only [Act.put, List.setIfInBounds_toArray, List.set_cons_zero, List.set_cons_succ]
              refine wpAnyH_take (i := 2) (oi := ?oi2Q) (v := ?v2Q) ?oi0_2Q (by kernel_rfl) ?ff2Q ?rr2Q ?hq2Q (Or.inl ⟨?hw2Q, ?hy2Q⟩) (by assumption) ?rest2Q
              case oi0_2Q =>
                conv =>
                  lhs
                  whnf
                  arg 1
                  whnf
              case hq2Q => exact fun _ _ _ h => h
              case ff2Q => kernel_rfl
              case rr2Q => kernel_rfl
              case hw2Q => rfl
              case hy2Q =>
                intro w hSw
                (try dsimp only at hSw)
                first
                | (go_simp; done)
                | (go_simp; with_reducible rfl)
              try simp only [Act.put, List.setIfInBounds_toArray, List.set_cons_zero, List.set_cons_succ]
              refine wpAnyH_take (i := 3) (oi := ?oi3Q) (v := ?v3Q) ?oi0_3Q (by kernel_rfl) ?ff3Q ?rr3Q ?hq3Q (Or.inl ⟨?hw3Q, ?hy3Q⟩) (by assumption) ?rest3Q
              case oi0_3Q =>
                conv =>
                  lhs
                  whnf
                  arg 1
                  whnf
              case hq3Q => exact fun _ _ _ h => h
              case ff3Q => kernel_rfl
              case rr3Q => kernel_rfl
              case hw3Q => rfl
              case hy3Q =>
                intro w hSw
                (try dsimp only at hSw)
                first
                | (go_simp; done)
                | (go_simp; with_reducible rfl)
              try simp only [Act.put, List.setIfInBounds_toArray, List.set_cons_zero, List.set_cons_succ]
              refine wpAnyH_take (i := 4) (oi := ?oi4Q) (v := ?v4Q) ?oi0_4Q (by kernel_rfl) ?ff4Q ?rr4Q ?hq4Q (Or.inl ⟨?hw4Q, ?hy4Q⟩) (by assumption) ?rest4Q
              case oi0_4Q =>
                conv =>
                  lhs
                  whnf
                  arg 1
                  whnf
              case hq4Q => exact fun _ _ _ h => h
              case ff4Q => kernel_rfl
              case rr4Q => kernel_rfl
              case hw4Q => rfl
              case hy4Q =>
                intro w hSw
                (try dsimp only at hSw)
                first
                | (go_simp; done)
                | (go_simp; with_reducible rfl)
              try simp only [Act.put, List.setIfInBounds_toArray, List.set_cons_zero, List.set_cons_succ]
              refine wpAnyH_take (i := 5) (oi := ?oi5Q) (v := ?v5Q) ?oi0_5Q (by kernel_rfl) ?ff5Q ?rr5Q ?hq5Q (Or.inl ⟨?hw5Q, ?hy5Q⟩) (by assumption) ?rest5Q
              case oi0_5Q =>
                conv =>
                  lhs
                  whnf
                  arg 1
                  whnf
              case hq5Q => exact fun _ _ _ h => h
              case ff5Q => kernel_rfl
              case rr5Q => kernel_rfl
              case hw5Q => rfl
              case hy5Q =>
                intro w hSw
                (try dsimp only at hSw)
                first
                | (go_simp; done)
                | (go_simp; with_reducible rfl)
              try simp only [Act.put, List.setIfInBounds_toArray, List.set_cons_zero, List.set_cons_succ]
              refine wpAnyH_take (i := 6) (oi := ?oi6Q) (v := ?v6Q) ?oi0_6Q (by kernel_rfl) ?ff6Q ?rr6Q ?hq6Q (Or.inl ⟨?hw6Q, ?hy6Q⟩) (by assumption) ?rest6Q
              case oi0_6Q =>
                conv =>
                  lhs
                  whnf
                  arg 1
                  whnf
              case hq6Q => exact fun _ _ _ h => h
              case ff6Q => kernel_rfl
              case rr6Q => kernel_rfl
              case hw6Q => rfl
              case hy6Q =>
                intro w hSw
                (try dsimp only at hSw)
                first
                | (go_simp; done)
                | (go_simp; with_reducible rfl)
              try simp only [Act.put, List.setIfInBounds_toArray, List.set_cons_zero, List.set_cons_succ]
              refine wpAnyH_take (i := 7) (oi := ?oi7Q) (v := ?v7Q) ?oi0_7Q (by kernel_rfl) ?ff7Q ?rr7Q ?hq7Q (Or.inl ⟨?hw7Q, ?hy7Q⟩) (by assumption) ?rest7Q
              case oi0_7Q =>
                conv =>
                  lhs
                  whnf
                  arg 1
                  whnf
              case hq7Q => exact fun _ _ _ h => h
              case ff7Q => kernel_rfl
              case rr7Q => kernel_rfl
              case hw7Q => rfl
              case hy7Q =>
                intro w hSw
                (try dsimp only at hSw)
                first
                | (go_simp; done)
                | (go_simp; with_reducible rfl)
              try simp only [Act.put, List.setIfInBounds_toArray, List.set_cons_zero, List.set_cons_succ]
              refine wpAnyH_take (i := 8) (oi := ?oi8Q) (v := ?v8Q) ?oi0_8Q (by kernel_rfl) ?ff8Q ?rr8Q ?hq8Q (Or.inl ⟨?hw8Q, ?hy8Q⟩) (by assumption) ?rest8Q
              case oi0_8Q =>
                conv =>
                  lhs
                  whnf
                  arg 1
                  whnf
              case hq8Q => exact fun _ _ _ h => h
              case ff8Q => kernel_rfl
              case rr8Q => kernel_rfl
              case hw8Q => rfl
              case hy8Q =>
                intro w hSw
                (try dsimp only at hSw)
                first
                | (go_simp; done)
                | (go_simp; with_reducible rfl)
              try simp only [Act.put, List.setIfInBounds_toArray, List.set_cons_zero, List.set_cons_succ]
              refine wpAnyH_take (i := 9) (oi := ?oi9Q) (v := ?v9Q) ?oi0_9Q (by kernel_rfl) ?ff9Q ?rr9Q ?hq9Q (Or.inl ⟨?hw9Q, ?hy9Q⟩) (by assumption) ?rest9Q
              case oi0_9Q =>
                conv =>
                  lhs
                  whnf
                  arg 1
                  whnf
              case hq9Q => exact fun _ _ _ h => h
              case ff9Q => kernel_rfl
              case rr9Q => kernel_rfl
              case hw9Q => rfl
              case hy9Q =>
                intro w hSw
                (try dsimp only at hSw)
                first
                | (go_simp; done)
                | (go_simp; with_reducible rfl)
              try simp only [Act.put, List.setIfInBounds_toArray, List.set_cons_zero, List.set_cons_succ]
              refine wpAnyH_take (i := 10) (oi := ?oi10Q) (v := ?v10Q) ?oi0_10Q (by kernel_rfl) ?ff10Q ?rr10Q ?hq10Q (Or.inl ⟨?hw10Q, ?hy10Q⟩) (by assumption) ?rest10Q
              case oi0_10Q =>
                conv =>
                  lhs
                  whnf
                  arg 1
                  whnf
              case hq10Q => exact fun _ _ _ h => h
              case ff10Q => kernel_rfl
              case rr10Q => kernel_rfl
              case hw10Q => rfl
              case hy10Q =>
                intro w hSw
                (try dsimp only at hSw)
                first
                | (go_simp; done)
                | (go_simp; with_reducible rfl)
              try simp only [Act.put, List.setIfInBounds_toArray, List.set_cons_zero, List.set_cons_succ]
              refine wpAnyH_take (i := 11) (oi := ?oi11Q) (v := ?v11Q) ?oi0_11Q (by kernel_rfl) ?ff11Q ?rr11Q ?hq11Q (Or.inl ⟨?hw11Q, ?hy11Q⟩) (by assumption) ?rest11Q
              case oi0_11Q =>
                conv =>
                  lhs
                  whnf
                  arg 1
                  whnf
              case hq11Q => exact fun _ _ _ h => h
              case ff11Q => kernel_rfl
              case rr11Q => kernel_rfl
              case hw11Q => rfl
              case hy11Q =>
                intro w hSw
                (try dsimp only at hSw)
                first
                | (go_simp; done)
                | (go_simp; with_reducible rfl)
              try simp only [Act.put, List.setIfInBounds_toArray, List.set_cons_zero, List.set_cons_succ]
              refine wpAnyH_ready (rs := [12]) (by kernel_rfl) (by simp) (AllReadyH.cons (o := ?oi12Q) ?oi0_12Q (fun K hK => ?_) AllReadyH.nil)
              case oi0_12Q =>
                conv =>
                  lhs
                  whnf
                  arg 1
                  whnf
              go_simp
              go_at_call 40
              have TT := PY.out W3.drew
              with_reducible (refine TT.mono ?_)
              clear TT
              rintro e w' ⟨rfl, rfl⟩
              (try dsimp only)
              refine hK.out _ _ (by exact ⟨v0, v1, v2⟩) (fun hHeld => ?_)
              clear hK K
              try simp only [Act.put, List.setIfInBounds_toArray, List.set_cons_zero, List.set_cons_succ]
              refine wpAnyH_take (i := 13) (oi := ?oi13Q) (v := ?v13Q) ?oi0_13Q (by kernel_rfl) ?ff13Q ?rr13Q ?hq13Q (Or.inl ⟨?hw13Q, ?hy13Q⟩) (by assumption) ?rest13Q
              case oi0_13Q =>
                conv =>
                  lhs
                  whnf
                  arg 1
                  whnf
              case hq13Q => exact fun _ _ _ h => h
              case ff13Q => kernel_rfl
              case rr13Q => kernel_rfl
              case hw13Q => rfl
              case hy13Q =>
                intro w hSw
                (try dsimp only at hSw)
                first
                | (go_simp; done)
                | (go_simp; with_reducible rfl)
              try simp only [Act.put, List.setIfInBounds_toArray, List.set_cons_zero, List.set_cons_succ]
              refine wpAnyH_take (i := 14) (oi := ?oi14Q) (v := ?v14Q) ?oi0_14Q (by kernel_rfl) ?ff14Q ?rr14Q ?hq14Q (Or.inl ⟨?hw14Q, ?hy14Q⟩) (by assumption) ?rest14Q
              case oi0_14Q =>
                conv =>
                  lhs
                  whnf
                  arg 1
                  whnf
              case hq14Q => exact fun _ _ _ h => h
              case ff14Q => kernel_rfl
              case rr14Q => kernel_rfl
              case hw14Q => rfl
              case hy14Q =>
                intro w hSw
                (try dsimp only at hSw)
                first
                | (go_simp; done)
                | (go_simp; with_reducible rfl)
              try simp only [Act.put, List.setIfInBounds_toArray, List.set_cons_zero, List.set_cons_succ]
              refine wpAnyH_take (i := 15) (oi := ?oi15Q) (v := ?v15Q) ?oi0_15Q (by kernel_rfl) ?ff15Q ?rr15Q ?hq15Q (Or.inl ⟨?hw15Q, ?hy15Q⟩) (by assumption) ?rest15Q
              case oi0_15Q =>
                conv =>
                  lhs
                  whnf
                  arg 1
                  whnf
              case hq15Q => exact fun _ _ _ h => h
              case ff15Q => kernel_rfl
              case rr15Q => kernel_rfl
              case hw15Q => rfl
              case hy15Q =>
                intro w hSw
                (try dsimp only at hSw)
                first
                | (go_simp; done)
                | (go_simp; with_reducible rfl)
              try simp only [Act.put, List.setIfInBounds_toArray, List.set_cons_zero, List.set_cons_succ]
              refine wpAnyH_take (i := 16) (oi := ?oi16Q) (v := ?v16Q) ?oi0_16Q (by kernel_rfl) ?ff16Q ?rr16Q ?hq16Q (Or.inl ⟨?hw16Q, ?hy16Q⟩) (by assumption) ?rest16Q
              case oi0_16Q =>
                conv =>
                  lhs
                  whnf
                  arg 1
                  whnf
              case hq16Q => exact fun _ _ _ h => h
              case ff16Q => kernel_rfl
              case rr16Q => kernel_rfl
              case hw16Q => rfl
              case hy16Q =>
                intro w hSw
                (try dsimp only at hSw)
                first
                | (go_simp; done)
                | (go_simp; with_reducible rfl)
              try simp only [Act.put, List.setIfInBounds_toArray, List.set_cons_zero, List.set_cons_succ]
              refine wpAnyH_done (by kernel_rfl) ?_ _
              have B4 := hide (B3.out.drew)
              have L4 := hide (L3.out.drew)
              have U4 := hide (((Upd.refl [] w).trans U1.out (by simp)).mono (l' := [Bp]) (by simp) |>.trans U3.out.drew (by simp))
              obtain ⟨W4, hW4⟩ : ∃ W4, W3.drew = W4 := ⟨_, rfl⟩
              rw [hW4] at B4 L4 U4
              have HW4 := hide hW4
              have n0 := B4.out.cell 0
              have n1 := B4.out.cell 1
              have n2 := B4.out.cell 2
              have hsz4 : Bp + 1 ≤ W4.heap.size := by have := U3.out.drew.size; rw [hW4] at this; omega
              have R4 := own_kept hrow.out (show Upd [Bp] wr W4 by rw [← hW4]; exact (HWR.out.mono (l' := [Bp]) (by simp)).trans U3.out.drew (by simp)) (fun q hq => by have := (row_lt hrow.out q hq).2; have := HBP.out; simp; omega)
              have LA4 := hide (hlaid.out.upd (show Upd [Bp] wr W4 by rw [← hW4]; exact (HWR.out.mono (l' := [Bp]) (by simp)).trans U3.out.drew (by simp)) (fun e he => by have := (hlaid.out e he).lt; have := HBP.out; simp; omega))
              have OB := hide (R4.alloc (.cells #[.slice (some ⟨gl, 0, none⟩) (1 + p1) c2, .int .i64 (p3 : Int), .int .i64 (-1)] 50))
              have HR4 := hide R4
              have hsw : w.heap.size ≤ W4.heap.size := by have := hu.out.size; have := HBP.out; omega
              have HSW := hide hsw
              clear hW4 R4 hsw
              rw [HW4.out]
              go_wp2_with (at_builtin; refine wpList_append_base rfl (.tmp 95) (.tmp 97) _ rfl w.heap.size 50 _ 3 40 Try.underlying22 info_piece rfl (by decide) A k cap (laidCells q) rfl OB.out ⟨W4.heap.size, 0, none⟩ 1 1 [.slice (some ⟨gl, 0, none⟩) (1 + p1) c2, .int .i64 (p3 : Int), .int .i64 (-1)] rfl rfl (cell_three_new _ _ _ _ _) (O1.out _) O3.out O4.out (by have := HSW.out; simp; omega) ?_; intro A5 c5 w9 h9 u9 a9; have H9 := hide h9; have U9 := hide u9; clear h9 u9 a9)
              have hra : ∀ g ∈ (A.map (·.block)).toList, w.heap.size ≤ g := fun g hg => (row_lt hrow.out g (by rw [ownBlock_slice]; simpa using hg)).1
              have hrn : ∀ e ∈ q, e.g ∉ (A.map (·.block)).toList := fun e he hm => own_blk_ne HR4.out (LA4.out e he) (by decide) e.g (by rw [ownBlock_slice]; simpa using hm) rfl
              have hrg : gl ∉ (A.map (·.block)).toList := fun hm => own_blk_ne HR4.out L4.out (by decide) gl (by rw [ownBlock_slice]; simpa using hm) rfl
              have ua := (Upd.refl [] W4).alloc (.cells #[.slice (some ⟨gl, 0, none⟩) (1 + p1) c2, .int .i64 (p3 : Int), .int .i64 (-1)] 50)
              have HE := hide (show laidCells (q ++ [⟨⟨zs, (p3 : Int), (-1)⟩, gl, c2, rl⟩]) = laidCells q ++ [.slice (some ⟨gl, 0, none⟩) (1 + p1) c2, .int .i64 (p3 : Int), .int .i64 (-1)] by rw [laidCells_snoc]; have := HZL.out; simp [this])
              have V1 := hide (show Upd [] w w9 from (((U4.out.trans ua (by simp)).trans U9.out (fun g hg => by right; exact hra g hg)).mono (fun g hg => by right; simp at hg; have := hu.out.size; have := HBP.out; omega)))
              have V2 := hide (show w9.ownsRow w.heap.size 50 3 (.slice A5 (k + 1) c5) (k + 1) (laidCells (q ++ [⟨⟨zs, (p3 : Int), (-1)⟩, gl, c2, rl⟩])) by rw [HE.out]; exact H9.out)
              have V3 := hide (show LaidAt w9 (q ++ [⟨⟨zs, (p3 : Int), (-1)⟩, gl, c2, rl⟩]) from fun e he => by
                rcases List.mem_append.1 he with he | he
                · exact ((LA4.out e he).upd ua (by simp)).upd U9.out (hrn e he)
                · obtain rfl : e = ⟨⟨zs, (p3 : Int), (-1)⟩, gl, c2, rl⟩ := by simpa using he
                  exact ((L4.out).upd ua (by simp)).upd U9.out hrg)
              have V4 := hide (show ∀ e ∈ (q ++ [⟨⟨zs, (p3 : Int), (-1)⟩, gl, c2, rl⟩] : List Laid), w.heap.size ≤ e.g ∧ Pc7 e.p ∧ e.p.join ≤ 1750 from fun e he => by
                rcases List.mem_append.1 he with he | he
                · exact hall.out e he
                · obtain rfl : e = ⟨⟨zs, (p3 : Int), (-1)⟩, gl, c2, rl⟩ := by simpa using he
                  have h1 := hu.out.size
                  have h2 := HBP.out
                  have h3 := HGL.out
                  have h4 := HZL.out
                  refine ⟨by show w.heap.size ≤ gl; omega, ⟨⟨⟨by show 1 ≤ zs.length; omega, by show zs.length ≤ 8; omega⟩, ⟨by show (0 : Int) ≤ p3; omega, by show (p3 : Int) ≤ 3600; omega⟩, ⟨by show (-1 : Int) ≤ (-1); omega, by show ((-1) : Int) ≤ 3600; omega⟩, hA.out.1⟩, by show zs.length ≤ 7; omega⟩, by show ((-1) : Int) ≤ 1750; omega⟩)
              have V5 := hide (show fitsS ((at_ + zn : Nat) : Int) ((q ++ [⟨⟨zs, (p3 : Int), (-1)⟩, gl, c2, rl⟩] : List Laid).map (·.p)) 0 (h ++ [(zn : Int)]) = true by
                have e : ((at_ + zn : Nat) : Int) = (at_ : Int) + (zn : Int) := by omega
                rw [e, List.map_append]
                exact fitsS_snoc (p := ⟨zs, (p3 : Int), (-1)⟩) (List.mem_of_getElem? HZ.out) hfit.out (by simp [meetsS]))
              go_roundw
              case rel => exact ⟨k + 1, at_ + zn, A5, c5, q ++ [⟨⟨zs, (p3 : Int), (-1)⟩, gl, c2, rl⟩], h ++ [(zn : Int)], by omega, by omega, by omega, by have := HQL.out; simp; omega, by go_num, by go_num, rfl, V1, V2, V3, V4, V5⟩
              case measure => simp [intOf] <;> omega
      · obtain rfl : k = 10 := by omega
        obtain ⟨wo, rfl⟩ : ∃ wo : World, wo = wr := ⟨_, rfl⟩
        have HRO := hide hrow.out
        have hlen : ∀ e ∈ q, e.p.lens.length ≤ 100 := fun e he => by have := (hall.out e he).2.1.1.1.2; omega
        have HLN := hide hlen
        have PM := hide (fun W => rpick_any miss 40 W HM.out (by omega) (by omega))
        obtain ⟨m, hm⟩ : ∃ m : Nat, pickN miss 40 = (m : Int) := ⟨(pickN miss 40).toNat, by have := pickN_lt miss (n := 40) (by omega); omega⟩
        have hmb : m < 40 := by have := pickN_lt miss (n := 40) (by omega); omega
        have PM' := PM.out
        simp only [hm] at PM'
        have HMM := hide hm
        have QM := hide PM'
        have HQL := hide hql
        clear PM PM' hm hql hlen
        go_wp2_with fail
        refine (QM.out _).mono ?_
        rintro e w' ⟨rfl, rfl⟩
        by_cases hm20 : m ≤ 20
        · obtain ⟨pa1, pa2⟩ := laid_row HRO.out HQL.out hlaid.out HLN.out
          have PA := hide pa1
          have VV := hide (valid_of_laid (t := (at_ : Int)) (by have := HQL.out; omega) (by omega) (fun e he => (hall.out e he).2.1))
          have h1 : ¬ (30 : Int) < m := by omega
          have h2 : ¬ (20 : Int) < m := by omega
          have hkb : 10 ≤ 10 := by omega
          clear pa1
          go_wp2_with fail
          go_ret2
          exact ⟨_, _, _, _, _, rfl, by rw [List.length_map]; exact HQL.out, hkb, pa2, PA.out, VV.out, fun _ => ⟨h, hfit.out⟩, hu.out⟩
        · have h2 : (20 : Int) < m := by omega
          by_cases hm30 : 30 < m ∧ 0 < 10
          · obtain ⟨hm30, hk0⟩ := hm30
            have h1 : (30 : Int) < m := by omega
            have h3 : (0 : Int) < (10 : Nat) := by omega
            obtain ⟨g, r, rfl, hg, hb, hcap⟩ := own_open3 HRO.out hk0
            have T40 := tdiv_in HM.out (a := 40) (by omega)
            have PK := hide (fun W => rpick_any (miss.tdiv 40) ((10 : Nat) : Int) W T40.2 (by omega) (by omega))
            have hw40 := T40.1
            obtain ⟨y, hy⟩ : ∃ y : Nat, pickN (miss.tdiv 40) ((10 : Nat) : Int) = (y : Int) := ⟨(pickN (miss.tdiv 40) ((10 : Nat) : Int)).toNat, by have := pickN_lt (miss.tdiv 40) (n := ((10 : Nat) : Int)) (by omega); omega⟩
            have hyb : y < 10 := by have := pickN_lt (miss.tdiv 40) (n := ((10 : Nat) : Int)) (by omega); omega
            have PK' := PK.out
            simp only [hy] at PK'
            have QK := hide PK'
            have hyi : (y : Int) < (10 : Nat) := by omega
            obtain ⟨e0, he0⟩ : ∃ e0, q[y]? = some e0 := ⟨_, List.getElem?_eq_getElem (by have := HQL.out; omega)⟩
            have i0 : wo.cell? ⟨g, y * 3 + 2, none⟩ = some (.int .i64 e0.p.join) := by
              rw [hb.cell, List.getElem?_append_left (by rw [laidCells_length]; have := HQL.out; omega), laidCells_at q y e0 2 he0 (by omega)]
              rfl
            have i1 := hb.frozen (y * 3 + 2)
            have hj0 := hall.out e0 (List.mem_of_getElem? he0)
            obtain ⟨_, hj1, hj2⟩ := hj0
            have hj3 := hj1.1.2.2.1.1
            have HJ1 := hide hj1
            have HE0 := hide he0
            have HB := hide hb
            obtain ⟨jn, hjn⟩ : ∃ jn, e0.p.join = jn := ⟨_, rfl⟩
            rw [hjn] at i0 hj2 hj3
            have HJN := hide hjn
            have hkb : 10 ≤ 10 := by omega
            clear PK PK' hy he0 hj1 hb T40 hjn
            by_cases hjz : 0 ≤ jn
            · have hwj : IntKind.i64.wrap (jn + (m : Int)) = jn + (m : Int) := Go.IntWalk.i64_in _ (by omega)
              have hwk : IntKind.i64.wrap (jn + (m : Int) - 30) = jn + (m : Int) - 30 := Go.IntWalk.i64_in _ (by omega)
              have us := (Upd.refl [g] wo).setCell (p := ⟨g, y * 3 + 2, none⟩) (.inl (by simp)) (.int .i64 (jn + (m : Int) - 30))
              have hb2 := HB.out.set_ (y * 3 + 2) (.int .i64 (jn + (m : Int) - 30))
              rw [laidCells_set q y e0 _ r HE0.out] at hb2
              have hq2 : LaidAt (wo.setCell ⟨g, y * 3 + 2, none⟩ (.int .i64 (jn + (m : Int) - 30))) (q.set y (e0.at_ (jn + (m : Int) - 30))) := fun e he => by
                rcases List.mem_or_eq_of_mem_set he with he | rfl
                · exact (hlaid.out e he).upd us (by have := Blk.ne_ (hlaid.out e he) HB.out (by decide); simpa using this)
                · have := List.mem_of_getElem? HE0.out
                  exact (hlaid.out e0 this).upd us (by have := Blk.ne_ (hlaid.out e0 this) HB.out (by decide); simpa using this)
              have PA := hide (laid_pcs hb2 hq2 (fun e he => by
                rcases List.mem_or_eq_of_mem_set he with he | rfl
                · exact HLN.out e he
                · exact HLN.out e0 (List.mem_of_getElem? HE0.out)))
              have VV := hide (valid_of_laid (q := q.set y (e0.at_ (jn + (m : Int) - 30))) (t := (at_ : Int)) (by rw [List.length_set]; have := HQL.out; omega) (by omega) (fun e he => by
                rcases List.mem_or_eq_of_mem_set he with he | rfl
                · exact (hall.out e he).2.1
                · have := HJ1.out
                  exact ⟨⟨this.1.1, this.1.2.1, ⟨by show (-1 : Int) ≤ jn + (m : Int) - 30; omega, by show jn + (m : Int) - 30 ≤ 3600; omega⟩, this.1.2.2.2⟩, this.2⟩))
              have VU := hide (hu.out.trans us (fun x hx => by right; simp at hx; omega))
              have HC := hide hcap
              clear us hb2 hq2 hcap
              go_wp2_with fail
              refine (QK.out _).mono ?_
              rintro e w' ⟨rfl, rfl⟩
              go_wp2_with fail
              go_ret2
              exact ⟨_, _, _, _, _, rfl, by rw [List.length_map, List.length_set]; exact HQL.out, hkb, HC.out, PA.out, VV.out, fun hh => by rw [HMM.out] at hh; omega, VU.out.mono (by simp)⟩
            · obtain ⟨pa1, pa2⟩ := laid_row HRO.out HQL.out hlaid.out HLN.out
              have PA := hide pa1
              have VV := hide (valid_of_laid (t := (at_ : Int)) (by have := HQL.out; omega) (by omega) (fun e he => (hall.out e he).2.1))
              clear pa1
              go_wp2_with fail
              refine (QK.out _).mono ?_
              rintro e w' ⟨rfl, rfl⟩
              go_wp2_with fail
              go_ret2
              exact ⟨_, _, _, _, _, rfl, by rw [List.length_map]; exact HQL.out, hkb, pa2, PA.out, VV.out, fun hh => by rw [HMM.out] at hh; omega, hu.out⟩
          · obtain ⟨pa1, pa2⟩ := laid_row HRO.out HQL.out hlaid.out HLN.out
            have PA := hide pa1
            have hws : IntKind.i64.wrap ((at_ : Int) + (m : Int)) = (at_ : Int) + (m : Int) := Go.IntWalk.i64_in _ (by omega)
            have hwt : IntKind.i64.wrap ((at_ : Int) + (m : Int) - 20) = (at_ : Int) + (m : Int) - 20 := Go.IntWalk.i64_in _ (by omega)
            have VV := hide (valid_of_laid (t := (at_ : Int) + (m : Int) - 20) (by have := HQL.out; omega) (by omega) (fun e he => (hall.out e he).2.1))
            have hkb : 10 ≤ 10 := by omega
            clear pa1
            by_cases h30 : (30 : Int) < m
            · have h0 : ¬ (0 : Int) < (10 : Nat) := by omega
              exact absurd (show (0 : Int) < ((10 : Nat) : Int) by omega) h0
            · go_wp2_with fail
              go_ret2
              exact ⟨_, _, _, _, _, rfl, by rw [List.length_map]; exact HQL.out, hkb, pa2, PA.out, VV.out, fun hh => by rw [HMM.out] at hh; omega, hu.out⟩
    · obtain rfl : k = n := by omega
      obtain ⟨wo, rfl⟩ : ∃ wo : World, wo = wr := ⟨_, rfl⟩
      have HRO := hide hrow.out
      have hlen : ∀ e ∈ q, e.p.lens.length ≤ 100 := fun e he => by have := (hall.out e he).2.1.1.1.2; omega
      have HLN := hide hlen
      have PM := hide (fun W => rpick_any miss 40 W HM.out (by omega) (by omega))
      obtain ⟨m, hm⟩ : ∃ m : Nat, pickN miss 40 = (m : Int) := ⟨(pickN miss 40).toNat, by have := pickN_lt miss (n := 40) (by omega); omega⟩
      have hmb : m < 40 := by have := pickN_lt miss (n := 40) (by omega); omega
      have PM' := PM.out
      simp only [hm] at PM'
      have HMM := hide hm
      have QM := hide PM'
      have HQL := hide hql
      clear PM PM' hm hql hlen
      go_wp2_with fail
      refine (QM.out _).mono ?_
      rintro e w' ⟨rfl, rfl⟩
      by_cases hm20 : m ≤ 20
      · obtain ⟨pa1, pa2⟩ := laid_row HRO.out HQL.out hlaid.out HLN.out
        have PA := hide pa1
        have VV := hide (valid_of_laid (t := (at_ : Int)) (by have := HQL.out; omega) (by omega) (fun e he => (hall.out e he).2.1))
        have h1 : ¬ (30 : Int) < m := by omega
        have h2 : ¬ (20 : Int) < m := by omega
        have hkb : k ≤ 10 := by omega
        clear pa1
        go_wp2_with fail
        go_ret2
        exact ⟨_, _, _, _, _, rfl, by rw [List.length_map]; exact HQL.out, hkb, pa2, PA.out, VV.out, fun _ => ⟨h, hfit.out⟩, hu.out⟩
      · have h2 : (20 : Int) < m := by omega
        by_cases hm30 : 30 < m ∧ 0 < k
        · obtain ⟨hm30, hk0⟩ := hm30
          have h1 : (30 : Int) < m := by omega
          have h3 : (0 : Int) < (k : Nat) := by omega
          obtain ⟨g, r, rfl, hg, hb, hcap⟩ := own_open3 HRO.out hk0
          have T40 := tdiv_in HM.out (a := 40) (by omega)
          have PK := hide (fun W => rpick_any (miss.tdiv 40) ((k : Nat) : Int) W T40.2 (by omega) (by omega))
          have hw40 := T40.1
          obtain ⟨y, hy⟩ : ∃ y : Nat, pickN (miss.tdiv 40) ((k : Nat) : Int) = (y : Int) := ⟨(pickN (miss.tdiv 40) ((k : Nat) : Int)).toNat, by have := pickN_lt (miss.tdiv 40) (n := ((k : Nat) : Int)) (by omega); omega⟩
          have hyb : y < k := by have := pickN_lt (miss.tdiv 40) (n := ((k : Nat) : Int)) (by omega); omega
          have PK' := PK.out
          simp only [hy] at PK'
          have QK := hide PK'
          have hyi : (y : Int) < (k : Nat) := by omega
          obtain ⟨e0, he0⟩ : ∃ e0, q[y]? = some e0 := ⟨_, List.getElem?_eq_getElem (by have := HQL.out; omega)⟩
          have i0 : wo.cell? ⟨g, y * 3 + 2, none⟩ = some (.int .i64 e0.p.join) := by
            rw [hb.cell, List.getElem?_append_left (by rw [laidCells_length]; have := HQL.out; omega), laidCells_at q y e0 2 he0 (by omega)]
            rfl
          have i1 := hb.frozen (y * 3 + 2)
          have hj0 := hall.out e0 (List.mem_of_getElem? he0)
          obtain ⟨_, hj1, hj2⟩ := hj0
          have hj3 := hj1.1.2.2.1.1
          have HJ1 := hide hj1
          have HE0 := hide he0
          have HB := hide hb
          obtain ⟨jn, hjn⟩ : ∃ jn, e0.p.join = jn := ⟨_, rfl⟩
          rw [hjn] at i0 hj2 hj3
          have HJN := hide hjn
          have hkb : k ≤ 10 := by omega
          clear PK PK' hy he0 hj1 hb T40 hjn
          by_cases hjz : 0 ≤ jn
          · have hwj : IntKind.i64.wrap (jn + (m : Int)) = jn + (m : Int) := Go.IntWalk.i64_in _ (by omega)
            have hwk : IntKind.i64.wrap (jn + (m : Int) - 30) = jn + (m : Int) - 30 := Go.IntWalk.i64_in _ (by omega)
            have us := (Upd.refl [g] wo).setCell (p := ⟨g, y * 3 + 2, none⟩) (.inl (by simp)) (.int .i64 (jn + (m : Int) - 30))
            have hb2 := HB.out.set_ (y * 3 + 2) (.int .i64 (jn + (m : Int) - 30))
            rw [laidCells_set q y e0 _ r HE0.out] at hb2
            have hq2 : LaidAt (wo.setCell ⟨g, y * 3 + 2, none⟩ (.int .i64 (jn + (m : Int) - 30))) (q.set y (e0.at_ (jn + (m : Int) - 30))) := fun e he => by
              rcases List.mem_or_eq_of_mem_set he with he | rfl
              · exact (hlaid.out e he).upd us (by have := Blk.ne_ (hlaid.out e he) HB.out (by decide); simpa using this)
              · have := List.mem_of_getElem? HE0.out
                exact (hlaid.out e0 this).upd us (by have := Blk.ne_ (hlaid.out e0 this) HB.out (by decide); simpa using this)
            have PA := hide (laid_pcs hb2 hq2 (fun e he => by
              rcases List.mem_or_eq_of_mem_set he with he | rfl
              · exact HLN.out e he
              · exact HLN.out e0 (List.mem_of_getElem? HE0.out)))
            have VV := hide (valid_of_laid (q := q.set y (e0.at_ (jn + (m : Int) - 30))) (t := (at_ : Int)) (by rw [List.length_set]; have := HQL.out; omega) (by omega) (fun e he => by
              rcases List.mem_or_eq_of_mem_set he with he | rfl
              · exact (hall.out e he).2.1
              · have := HJ1.out
                exact ⟨⟨this.1.1, this.1.2.1, ⟨by show (-1 : Int) ≤ jn + (m : Int) - 30; omega, by show jn + (m : Int) - 30 ≤ 3600; omega⟩, this.1.2.2.2⟩, this.2⟩))
            have VU := hide (hu.out.trans us (fun x hx => by right; simp at hx; omega))
            have HC := hide hcap
            clear us hb2 hq2 hcap
            go_wp2_with fail
            refine (QK.out _).mono ?_
            rintro e w' ⟨rfl, rfl⟩
            go_wp2_with fail
            go_ret2
            exact ⟨_, _, _, _, _, rfl, by rw [List.length_map, List.length_set]; exact HQL.out, hkb, HC.out, PA.out, VV.out, fun hh => by rw [HMM.out] at hh; omega, VU.out.mono (by simp)⟩
          · obtain ⟨pa1, pa2⟩ := laid_row HRO.out HQL.out hlaid.out HLN.out
            have PA := hide pa1
            have VV := hide (valid_of_laid (t := (at_ : Int)) (by have := HQL.out; omega) (by omega) (fun e he => (hall.out e he).2.1))
            clear pa1
            go_wp2_with fail
            refine (QK.out _).mono ?_
            rintro e w' ⟨rfl, rfl⟩
            go_wp2_with fail
            go_ret2
            exact ⟨_, _, _, _, _, rfl, by rw [List.length_map]; exact HQL.out, hkb, pa2, PA.out, VV.out, fun hh => by rw [HMM.out] at hh; omega, hu.out⟩
        · obtain ⟨pa1, pa2⟩ := laid_row HRO.out HQL.out hlaid.out HLN.out
          have PA := hide pa1
          have hws : IntKind.i64.wrap ((at_ : Int) + (m : Int)) = (at_ : Int) + (m : Int) := Go.IntWalk.i64_in _ (by omega)
          have hwt : IntKind.i64.wrap ((at_ : Int) + (m : Int) - 20) = (at_ : Int) + (m : Int) - 20 := Go.IntWalk.i64_in _ (by omega)
          have VV := hide (valid_of_laid (t := (at_ : Int) + (m : Int) - 20) (by have := HQL.out; omega) (by omega) (fun e he => (hall.out e he).2.1))
          have hkb : k ≤ 10 := by omega
          clear pa1
          by_cases h30 : (30 : Int) < m
          · have h0 : ¬ (0 : Int) < (k : Nat) := by omega
            go_wp2_with fail
            go_ret2
            exact ⟨_, _, _, _, _, rfl, by rw [List.length_map]; exact HQL.out, hkb, pa2, PA.out, VV.out, fun hh => by rw [HMM.out] at hh; omega, hu.out⟩
          · go_wp2_with fail
            go_ret2
            exact ⟨_, _, _, _, _, rfl, by rw [List.length_map]; exact HQL.out, hkb, pa2, PA.out, VV.out, fun hh => by rw [HMM.out] at hh; omega, hu.out⟩
theorem made_any {n₀ : Nat} (a : Option Addr) (n c : Nat) (xs : List X4) (miss : Int) (w : World) (hX : X4At n₀ w a xs) (hxl : xs.length = n) (hn : n ≤ maxLen) (h0 : n₀ ≤ w.heap.size) (hmiss : (Lit.int .i64 miss).wf = true) :
    Calls Try.prog 11 #[.slice a n c, .int .i64 miss] w fun e w' => ∃ (b : Option Addr) (len cap : Nat) (l : List Pc) (t : Int), e = .returned (.tuple #[.slice b len cap, .int .i64 t]) ∧ l.length = len ∧ len ≤ 10 ∧ len ≤ cap ∧ PcsAt w'.heap.size w' b l ∧ ValidS l t ∧ (pickN miss 40 ≤ 20 → ∃ h, fitsS t l 0 h = true) ∧ Upd [] w w' := by
  refine (made_any7 a n c xs miss w hX hxl hn h0 hmiss).mono ?_
  rintro e w' ⟨b, len, cap, l, t, h1, h2, h3, h4, h5, h6, h7, h8⟩
  exact ⟨b, len, cap, l, t, h1, h2, h3, h4, h5, h6.1, h7, h8⟩
end Go.Proofs.Yteehjciepccomaa
