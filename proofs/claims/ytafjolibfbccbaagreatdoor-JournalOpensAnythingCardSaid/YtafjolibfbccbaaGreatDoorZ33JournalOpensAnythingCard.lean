/-
  The contract of the disk's Crash.
-/
import Derived.Test.YtafjolibfbccbaaGreatDoorZ16JournalOpensAnythingCard
import Derived.Test.YtafjolibfbccbaaGreatDoorZ3JournalOpensAnythingCard
import Derived.Test.YtafjolibfbccbaaGreatDoorZ13JournalOpensAnythingCard

namespace Go.Proofs.YtafjolibfbccbaaGreatDoor
open Go.RowKit Go.Shelf Go.Sort
set_option maxRecDepth 100000
set_option maxHeartbeats 1000000

theorem delete_nil (g : Nat) (lb : Array Value) (w : World) : Calls Tryz.prog 63 #[.slice none 0 0, .func (.func g) #[] lb] w fun e w' => e = .returned (.slice none 0 0) ∧ ∃ q, w' = w.drewN q := by
  have I := hide (Tryz.slices_IndexFunc_empty_f92 (α := Int) none 0 (.func (.func g) #[] lb) w)
  go_enter Tryz.func63, Tryz.ntmps63
  go_wp2_with (go_at_call 92; refine I.out.mono ?_; rintro e w' ⟨rfl, rfl⟩)
  go_ret
  exact ⟨rfl, 0, rfl⟩

/-- The closure that Crash hands to DeleteFunc: is a number none of a pending write? -/
def outB (n : Nat) (x : Int) : Bool := decide (x < 0) || decide ((n : Int) ≤ x)
theorem crash_pred {B g n c : Nat} {A : Option Addr} (x : Int) (W : World) (hB : W.cell? ⟨B, 0, none⟩ = some (.pointer (some ⟨g, 0, none⟩))) (h4 : W.cell? ⟨g, 4, none⟩ = some (.slice A n c)) :
    FnGives Tryz.prog 64 #[.pointer (some ⟨B, 0, none⟩)] #[.int .i64 x] (.bool (outB n x)) W := by
  show Calls Tryz.prog 64 #[.int .i64 x, .pointer (some ⟨B, 0, none⟩)] W _
  by_cases h1 : x < 0
  · have e : outB n x = true := by simp [outB, h1]
    have H := hide e
    clear e
    go_enter Tryz.func64, Tryz.ntmps64
    go_wp2
    go_ret
    exact ⟨by rw [H.out]; rfl, 0, rfl⟩
  · by_cases h2 : (n : Int) ≤ x
    · have e : outB n x = true := by simp [outB, h2]
      have H := hide e
      clear e
      go_enter Tryz.func64, Tryz.ntmps64
      go_wp2
      go_ret
      exact ⟨by rw [H.out]; rfl, 0, rfl⟩
    · have e : outB n x = false := by simp [outB]; omega
      have H := hide e
      clear e
      go_enter Tryz.func64, Tryz.ntmps64
      go_wp2
      go_ret
      exact ⟨by rw [H.out]; rfl, 0, rfl⟩

theorem nil_crash (a : Option Addr) (n c : Nat) (torn : Int) (w : World) : Calls Tryz.prog 30 #[.pointer none, .slice a n c, .int .i64 torn] w fun e w' => e = .returned (.int .i64 1) ∧ Below w.heap.size w w' := by
  go_enter Tryz.func30, Tryz.ntmps30
  go_wp2
  go_ret
  exact ⟨rfl, (Below.refl _ w).alloc (Nat.le_refl _) _⟩

theorem puts_length (b : List UInt8) : ∀ (l : List (Nat × List UInt8)), (∀ p ∈ l, p.1 + p.2.length ≤ b.length) → (puts b l).length = b.length := by
  intro l
  induction l generalizing b with
  | nil => intro _; rfl
  | cons p l ih =>
    intro h
    have h1 := put_length b p.1 p.2 (h p (by simp))
    show (puts (put b p.1 p.2) l).length = _
    rw [ih (put b p.1 p.2) (fun q hq => by rw [h1]; exact h q (by simp [hq])), h1]
theorem kept_fits {D : DiskS} (hD : D.Ok) (keep : List Int) : ∀ p ∈ D.kept keep, p.1 + p.2.length ≤ D.sure.length := by
  intro p hp
  simp only [DiskS.kept, order, List.mem_map, List.mem_filter, List.mem_range] at hp
  obtain ⟨i, ⟨hi, _⟩, rfl⟩ := hp
  rw [List.getElem?_eq_getElem hi]
  exact hD.fits _ (List.getElem_mem hi)
theorem torn_fits {D : DiskS} (hD : D.Ok) (keep : List Int) (torn : Int) : ∀ p ∈ lastTorn torn (D.kept keep), p.1 + p.2.length ≤ D.sure.length := by
  intro p hp
  simp only [lastTorn, List.mem_mapIdx] at hp
  obtain ⟨i, hi, rfl⟩ := hp
  have := kept_fits hD keep _ (List.getElem_mem hi)
  split
  · have h2 : (((D.kept keep)[i]).2.take torn.toNat).length ≤ ((D.kept keep)[i]).2.length := by simp; omega
    simp only
    omega
  · exact this
theorem crash_len {D : DiskS} (hD : D.Ok) (keep : List Int) (torn : Int) : (puts D.sure (lastTorn torn (D.kept keep))).length = D.sure.length := puts_length _ _ (torn_fits hD keep torn)

theorem pCells_get (l : List (Nat × List UInt8)) {i : Nat} {p : Nat × List UInt8} (h : l[i]? = some p) : (pCells l)[i * 2]? = some (.int .i64 (p.1 : Int)) ∧ (pCells l)[i * 2 + 1]? = some (.string ⟨p.2.toArray⟩) := by
  induction l generalizing i with
  | nil => simp at h
  | cons q l ih =>
    cases i with
    | zero =>
      simp at h
      subst h
      exact ⟨rfl, rfl⟩
    | succ i =>
      have := ih (i := i) (by simpa using h)
      have e : (i + 1) * 2 = i * 2 + 1 + 1 := by omega
      rw [e]
      exact this
theorem pend_cell {w : World} {gp n c : Nat} {s : Option Nat} {o : Nat} {l : List (Nat × List UInt8)} {j : Nat} {u : Value} (h : w.ownsRow 0 92 2 (.slice (some ⟨gp, o, s⟩) n c) n (pCells l)) (hu : (pCells l)[j]? = some u) : w.cell? ⟨gp, j, none⟩ = some u := by
  have := World.ownsRow.cells h (g := gp) rfl j u hu
  have e : (⟨gp, 0, none⟩ : Addr).add j = ⟨gp, j, none⟩ := by unfold Addr.add; split <;> simp_all
  rwa [e] at this
theorem pend_cell0 {w : World} {gp n c : Nat} {s : Option Nat} {o : Nat} {l : List (Nat × List UInt8)} {i : Nat} {p : Nat × List UInt8} (h : w.ownsRow 0 92 2 (.slice (some ⟨gp, o, s⟩) n c) n (pCells l)) (hp : l[i]? = some p) : w.cell? ⟨gp, i * 2, none⟩ = some (.int .i64 (p.1 : Int)) :=
  pend_cell h (pCells_get l hp).1
theorem pend_cell1 {w : World} {gp n c : Nat} {s : Option Nat} {o : Nat} {l : List (Nat × List UInt8)} {i : Nat} {p : Nat × List UInt8} (h : w.ownsRow 0 92 2 (.slice (some ⟨gp, o, s⟩) n c) n (pCells l)) (hp : l[i]? = some p) : w.cell? ⟨gp, i * 2 + 1, none⟩ = some (.string ⟨p.2.toArray⟩) :=
  pend_cell h (pCells_get l hp).2

theorem puts_snoc (b : List UInt8) (l : List (Nat × List UInt8)) {k o : Nat} {s : List UInt8} (h : l[k]? = some (o, s)) : puts b (l.take (k + 1)) = put (puts b (l.take k)) o s := by
  have hk : k < l.length := (List.getElem?_eq_some_iff.1 h).1
  rw [List.take_succ_eq_append_getElem hk]
  have e : l[k] = (o, s) := by
    have := List.getElem?_eq_getElem hk
    rw [h] at this
    injection this with this
    exact this.symm
  rw [e]
  simp [puts]
theorem torn_get (torn : Int) (l : List (Nat × List UInt8)) {k : Nat} {p p' : Nat × List UInt8} (h : l[k]? = some p) (hp : (if k + 1 = l.length ∧ 0 ≤ torn then (p.1, p.2.take torn.toNat) else p) = p') : (lastTorn torn l)[k]? = some p' := by
  simp only [lastTorn, List.getElem?_mapIdx, h, Option.map_some]
  rw [hp]

theorem crash_any {F : List Nat} {g : Nat} {D : DiskS} (sv : Value) (keep : List Int) (torn : Int) (w : World) (h : IsDisk w F g D) (hp : D.pend.length ≤ 1000000000) (hk : keep.length * 8 ≤ 140737488351232) (hI : Ints w.heap.size w sv keep) :
    Calls Tryz.prog 30 #[.pointer (some ⟨g, 0, none⟩), sv, .int .i64 torn] w fun e w' => e = .returned (.int .i64 0) ∧ Moved F w w' g (D.crash keep torn) := by
  obtain ⟨gd, gv, A, c, h⟩ := h
  obtain ⟨a, n, cp, rfl⟩ : ∃ a n c, sv = .slice a n c := by
    rcases hI with ⟨a, c, rfl, _⟩ | ⟨b, off, cap, rfl, _⟩ <;> exact ⟨_, _, _, rfl⟩
  have H := hide h
  have HI := hide hI
  have Hk := hide hk
  have Hp := hide hp
  clear h hI hk hp
  go_enter Tryz.func30, Tryz.ntmps30
  go_wp2_with fail
  refine (values_any a n cp _).mono ?_
  rintro e w1 ⟨rfl, rfl⟩
  go_wp2_with fail
  refine (sorted_any (w.heap.size + 1) (.slice a n cp) keep Hk.out _ (by simp) (by simp) ?_).mono ?_
  · exact (HI.out.below (((Below.refl _ w).alloc (Nat.le_refl _) _).alloc (by simp) _)).mono (by simp; omega)
  rintro e w2 ⟨v2, rfl, o2, b2, n2⟩
  have O2 := hide o2
  have B2 := hide b2
  have N2 := hide n2
  clear o2 b2 n2
  go_wp2_with fail
  refine (compact_own w2 O2.out).mono ?_
  rintro e w3 ⟨v3, rfl, o3, e3, u3⟩
  have O3 := hide o3
  have E3 := hide e3
  have U3 := hide u3
  clear o3 e3 u3
  go_wp2_with fail
  have hN : ∀ k, v3.ownBlock = some k → w.heap.size + 2 ≤ k := fun k hk => by
    have := N2.out k (by rw [← E3.out]; exact hk)
    simp at this
    omega
  have bx3 : Blk w3 w.heap.size 27 [.pointer (some ⟨g, 0, none⟩)] :=
    (((Blk.new w 27 [.pointer (some ⟨g, 0, none⟩)]).alloc (Obj.cells #[.slice a n cp] 56)).below B2.out (by simp; omega)).upd U3.out (fun hm => by
      have := hN w.heap.size (by rw [E3.out]; simpa using hm)
      omega)
  have u03 : Upd [] w w3 := ((((Upd.refl [] w).alloc _).alloc _).below B2.out).trans U3.out (fun x hx => .inr (by
    have := hN x (by rw [E3.out]; simpa using hx)
    omega))
  have h3 := H.out.upd u03 (by simp)
  have hpo : ∀ blk, v3.ownBlock = some blk → PredOver Tryz.prog 64 #[.pointer (some ⟨w.heap.size, 0, none⟩)] (Value.int .i64) (outB D.pend.length) blk 0 (Lib.compact (keep.mergeSort fun x y => decide (x ≤ y))).length w3 := by
    intro blk hb n os dk x _
    have hbk := hN blk hb
    have hg3 := H.out.head.lt
    have hb3 := bx3.lt
    have hgl := h3.head.lt
    refine crash_pred (g := g) (c := c) (A := A) x _ ?_ ?_
    · unfold sortWorld
      rw [cell?_grow _ _ _ (by show w.heap.size < (putRow _ _ _ _ _).heap.size; rw [size_putRow]; exact hb3), cell?_putRow_other _ _ blk _ _ _ (Or.inl (by show w.heap.size ≠ blk; omega))]
      exact bx3.cell 0
    · unfold sortWorld
      rw [cell?_grow _ _ _ (by show g < (putRow _ _ _ _ _).heap.size; rw [size_putRow]; exact hgl), cell?_putRow_other _ _ blk _ _ _ (Or.inl (by show g ≠ blk; omega))]
      exact h3.head.cell 4
  have DC := hide (delete_own w3 O3.out (outB D.pend.length) 64 #[.pointer (some ⟨w.heap.size, 0, none⟩)] (enters_of Tryz.func64 (by kernel_rfl) rfl)
    (fun W x hb => crash_pred (g := g) (c := c) (A := A) x W ((hb.cell (p := ⟨w.heap.size, 0, none⟩) bx3.lt).trans (bx3.cell 0)) ((hb.cell (p := ⟨g, 4, none⟩) h3.head.lt).trans (h3.head.cell 4))) hpo (delete_nil _ _ w3))
  have HN := hide hN
  have BX3 := hide bx3
  have U03 := hide u03
  clear hN bx3 u03 h3 hpo
  refine DC.out.mono ?_
  rintro e w4 ⟨v4, rfl, o4, e4, u4⟩
  have hN4 : ∀ k, v4.ownBlock = some k → w.heap.size + 2 ≤ k := fun k hk => HN.out k (by rw [← e4]; exact hk)
  have BX := hide (BX3.out.upd u4 (fun hm => by
      have := HN.out w.heap.size (by simpa using hm)
      omega))
  have U := hide (U03.out.trans u4 (fun x hx => .inr (by
    have := HN.out x (by simpa using hx)
    omega)))
  have e5 : ((Lib.compact (keep.mergeSort fun x y => decide (x ≤ y))).filter fun x => !outB D.pend.length x) = (order D.pend.length keep).map (fun i : Nat => (i : Int)) := order_eq _ _
  rw [e5] at o4
  obtain ⟨A4, c4, rfl⟩ := own_form o4
  have O4 := hide o4
  have N4 := hide hN4
  clear o4 hN4 e4 u4 e5 DC O3 E3 U3 BX3 U03 O2 B2 N2 HN
  go_wp2_with fail
  have hm0 : (order D.pend.length keep).length ≤ 1000000000 := by
    have := Hp.out
    have := List.length_filter_le (fun i : Nat => decide ((i : Int) ∈ keep)) (List.range D.pend.length)
    simp only [List.length_range] at this
    unfold order
    omega
  have hlt0 : (lastTorn torn (D.kept keep)).length = (order D.pend.length keep).length := by simp [lastTorn, DiskS.kept]
  have Hm0 := hide hm0
  have Hlt0 := hide hlt0
  obtain ⟨m, Em⟩ : ∃ m, Hid ((order D.pend.length keep).length = m) := ⟨_, rfl⟩
  rw [Em.out] at hm0
  rw [Em.out]
  clear hlt0
  go_loopw [22] (fun i wr => ∃ k : Nat, k ≤ m ∧ i = .int .i64 k ∧ Upd [gd] w4 wr ∧ Blk wr gd 5 (bCells (puts D.sure ((lastTorn torn (D.kept keep)).take k))))
    (fun i _ => m - (intOf i).toNat)
  case atStart => exact ⟨0, Nat.zero_le _, rfl, Upd.refl _ _, (H.out.upd U.out (by simp)).sure⟩
  case round =>
    obtain ⟨k, hk, rfl, uk, bk⟩ := hrel
    have UK := hide uk
    have BK := hide bk
    clear uk bk
    by_cases hlt : k < m
    · obtain ⟨i, Ei⟩ : ∃ i, Hid ((order D.pend.length keep)[k]? = some i) := ⟨(order D.pend.length keep)[k]'(by rw [Em.out]; exact hlt), List.getElem?_eq_getElem _⟩
      have hin : i < D.pend.length := by
        have := List.mem_of_getElem? Ei.out
        simp only [order, List.mem_filter, List.mem_range] at this
        exact this.1
      obtain ⟨p, Ep⟩ : ∃ p, Hid (D.pend[i]? = some p) := ⟨_, List.getElem?_eq_getElem hin⟩
      obtain ⟨po, ps⟩ := p
      have hr := (H.out.upd U.out (by simp))
      have hhead := hr.head.upd UK.out (fun hm => hr.d_far (by simp at hm; simp [hm]))
      have hpend := own_kept hr.pend UK.out (fun x hx hm => own_blk_ne hr.pend hr.sure (by decide) x hx (by simpa using hm))
      have hbox := BX.out.upd UK.out (fun hm => by
        have := H.out.sure.lt
        simp at hm
        omega)
      have hord : OwnsInts wr (.slice A4 m c4) ((order D.pend.length keep).map (fun i : Nat => (i : Int))) := by
        have := O4.out
        rw [List.length_map, Em.out] at this
        exact this.upd UK.out (fun x hx hm => by
          have h1 := N4.out x (by rw [ownBlock_slice] at hx ⊢; exact hx)
          have := H.out.sure.lt
          simp at hm
          omega)
      obtain ⟨g4, rfl⟩ : ∃ g4, A4 = some ⟨g4, 0, none⟩ := by
        rcases hord.cases with ⟨hv, h0⟩ | ⟨g4, cap, cur, hv, _⟩
        · have : (order D.pend.length keep).length = 0 := by simpa using h0
          rw [Em.out] at this
          omega
        · exact ⟨g4, by injection hv⟩
      obtain ⟨gp, rfl⟩ : ∃ gp, A = some ⟨gp, 0, none⟩ := by
        rcases hpend.2 with ⟨hv, h0⟩ | ⟨gp, cap, cur, hv, _⟩
        · omega
        · exact ⟨gp, by injection hv⟩
      have ck : wr.cell? ⟨g4, k, none⟩ = some (.int .i64 (i : Int)) := by
        have := hord.cell (j := k) (by rw [List.length_map, Em.out]; exact hlt)
        rw [List.getElem?_map, Ei.out] at this
        exact this
      have cp0 : wr.cell? ⟨gp, i * 2, none⟩ = some (.int .i64 (po : Int)) := pend_cell0 hpend Ep.out
      have cp1 : wr.cell? ⟨gp, i * 2 + 1, none⟩ = some (.string ⟨ps.toArray⟩) := pend_cell1 hpend Ep.out
      have k0 := hbox.cell 0
      have k2 := hhead.cell 2
      have k4 := hhead.cell 4
      have HS := hide hhead
      have ltB := hbox.lt
      have ltg := hhead.lt
      clear hr hhead hpend hbox hord
      have LK := hide (puts_length D.sure ((lastTorn torn (D.kept keep)).take k) (fun q hq => torn_fits H.out.ok keep torn q (List.mem_of_mem_take hq)))
      have hfit : po + ps.length ≤ D.sure.length := H.out.ok.fits (po, ps) (List.mem_of_getElem? Ep.out)
      have hkept : (D.kept keep)[k]? = some (po, ps) := by
        simp only [DiskS.kept, List.getElem?_map, Ei.out, Option.map_some, Ep.out, Option.getD_some]
      have Hfit := hide hfit
      have Hkept := hide hkept
      clear hfit hkept
      by_cases hlast : m = k + 1
      · subst hlast
        by_cases ht : 0 ≤ torn
        · have hx : (({ data := ps.toArray } : ByteArray).extract 0 (min torn (ps.length : Int)).toNat).data.toList = ps.take torn.toNat := by
            rw [Lib.extract_data]
            simp only [List.drop_zero, Nat.sub_zero]
            by_cases h : torn ≤ ps.length
            · rw [Int.min_eq_left h]
            · rw [Int.min_eq_right (by omega), List.take_of_length_le (by simp), List.take_of_length_le (by omega)]
          have TL := hide (torn_get torn (D.kept keep) Hkept.out (p' := (po, (({ data := ps.toArray } : ByteArray).extract 0 (min torn (ps.length : Int)).toNat).data.toList)) (by
            rw [if_pos ⟨by simp [DiskS.kept, Em.out], ht⟩, hx]))
          have SF := hide (show po + (({ data := ps.toArray } : ByteArray).extract 0 (min torn (ps.length : Int)).toNat).size ≤ D.sure.length by
            have h1 := Hfit.out
            have h2 : (({ data := ps.toArray } : ByteArray).extract 0 (min torn (ps.length : Int)).toNat).size = (ps.take torn.toNat).length := by rw [Lib.size_eq, hx]
            rw [h2]
            simp
            omega)
          clear hx
          have ON := hide (onto_any (g := gd) (off := po) (n := D.sure.length) (({ data := ps.toArray } : ByteArray).extract 0 (min torn (ps.length : Int)).toNat) (puts D.sure ((lastTorn torn (D.kept keep)).take k)) (wr.alloc (Obj.cells #[Value.int IntKind.i64 (po : Int), Value.string (({ data := ps.toArray } : ByteArray).extract 0 (min torn (ps.length : Int)).toNat)] 92)).drew ((BK.out.alloc _).drew) (LK.out) (SF.out) H.out.ok.max)
          go_wp2_with fail
          go_region_with ((go_at_call 48; refine ON.out.mono ?_; rintro e w5 ⟨rfl, b5, u5⟩; have B5 := hide b5; have U5 := hide u5; clear b5 u5))
          all_goals
            go_wp2_with fail
            go_roundw
            case rel => first | exact ⟨k + 1, by omega, by go_num, (UK.out.alloc _).drew.trans U5.out (by simp), by rw [puts_snoc _ _ TL.out]; exact B5.out⟩ | ((repeat apply Exists.intro); exact ⟨⟨k + 1, by omega, by go_num, (UK.out.alloc _).drew.trans U5.out (by simp), by rw [puts_snoc _ _ TL.out]; exact B5.out⟩, rfl⟩)
            case measure => simp [intOf] <;> omega
        · have ht' : decide (0 ≤ torn) = false := by simpa using ht
          have TL := hide (torn_get torn (D.kept keep) Hkept.out (p' := (po, (({ data := ps.toArray } : ByteArray)).data.toList)) (by
            rw [if_neg (fun h => ht h.2)]))
          have SF := hide (show po + (({ data := ps.toArray } : ByteArray)).size ≤ D.sure.length from Hfit.out)
          have ON := hide (onto_any (g := gd) (off := po) (n := D.sure.length) ({ data := ps.toArray } : ByteArray) (puts D.sure ((lastTorn torn (D.kept keep)).take k)) (wr.alloc (Obj.cells #[Value.int IntKind.i64 (po : Int), Value.string ({ data := ps.toArray } : ByteArray)] 92)).drew ((BK.out.alloc _).drew) (LK.out) (SF.out) H.out.ok.max)
          go_wp2_with fail
          go_region_with ((go_at_call 48; refine ON.out.mono ?_; rintro e w5 ⟨rfl, b5, u5⟩; have B5 := hide b5; have U5 := hide u5; clear b5 u5))
          all_goals
            go_wp2_with fail
            go_roundw
            case rel => first | exact ⟨k + 1, by omega, by go_num, (UK.out.alloc _).drew.trans U5.out (by simp), by rw [puts_snoc _ _ TL.out]; exact B5.out⟩ | ((repeat apply Exists.intro); exact ⟨⟨k + 1, by omega, by go_num, (UK.out.alloc _).drew.trans U5.out (by simp), by rw [puts_snoc _ _ TL.out]; exact B5.out⟩, rfl⟩)
            case measure => simp [intOf] <;> omega
      · have hkm : ((k : Int) == (m : Int) - 1) = false := by simp; omega
        have TL := hide (torn_get torn (D.kept keep) Hkept.out (p' := (po, (({ data := ps.toArray } : ByteArray)).data.toList)) (by
          rw [if_neg (fun h => hlast (by have := h.1; simp [DiskS.kept, Em.out] at this; omega))]))
        have SF := hide (show po + (({ data := ps.toArray } : ByteArray)).size ≤ D.sure.length from Hfit.out)
        have ON := hide (onto_any (g := gd) (off := po) (n := D.sure.length) ({ data := ps.toArray } : ByteArray) (puts D.sure ((lastTorn torn (D.kept keep)).take k)) (wr.alloc (Obj.cells #[Value.int IntKind.i64 (po : Int), Value.string ({ data := ps.toArray } : ByteArray)] 92)).drew ((BK.out.alloc _).drew) (LK.out) (SF.out) H.out.ok.max)
        go_wp2_with fail
        go_region_with ((go_at_call 48; refine ON.out.mono ?_; rintro e w5 ⟨rfl, b5, u5⟩; have B5 := hide b5; have U5 := hide u5; clear b5 u5))
        all_goals
          go_wp2_with fail
          go_roundw
          case rel => first | exact ⟨k + 1, by omega, by go_num, (UK.out.alloc _).drew.trans U5.out (by simp), by rw [puts_snoc _ _ TL.out]; exact B5.out⟩ | ((repeat apply Exists.intro); exact ⟨⟨k + 1, by omega, by go_num, (UK.out.alloc _).drew.trans U5.out (by simp), by rw [puts_snoc _ _ TL.out]; exact B5.out⟩, rfl⟩)
          case measure => simp [intOf] <;> omega
    · obtain rfl : k = m := by omega
      have hr := (H.out.upd U.out (by simp))
      have hhead := hr.head.upd UK.out (fun hm => hr.d_far (by simp at hm; simp [hm]))
      have hpend := own_kept hr.pend UK.out (fun x hx hm => own_blk_ne hr.pend hr.sure (by decide) x hx (by simpa using hm))
      have hvis := hr.vis.upd UK.out (fun hm => hr.ne (List.mem_singleton.1 hm).symm)
      have hbox := BX.out.upd UK.out (fun hm => by
        have := H.out.sure.lt
        simp at hm
        omega)
      have htake : (lastTorn torn (D.kept keep)).take k = lastTorn torn (D.kept keep) := List.take_of_length_le (by rw [Hlt0.out, Em.out]; exact Nat.le_refl _)
      have hcont := BK.out
      rw [htake] at hcont
      have hlen : (puts D.sure (lastTorn torn (D.kept keep))).length = D.sure.length := crash_len hr.ok keep torn
      have S := hide (settle_any (g := g) (gf := gd) (gt := gv) wr.drew hhead.drew hcont.drew hvis.drew hlen (by simp [bCells]; exact hr.ok.len) (show World.ownsRow wr.drew _ _ _ _ _ _ from hpend))
      have k0 := hbox.cell 0
      have k2 := hhead.cell 2
      have k3 := hhead.cell 3
      have HB := hide hbox
      have HC := hide hcont
      have HL := hide hlen
      clear hr hhead hpend hvis hbox htake hcont hlen BK
      go_wp2_with fail
      go_still_tail 9, (by kernel_rfl)
      change wpList _ _ _ _ _ wr.drew
      go_wp2_with fail
      refine S.out.mono ?_
      rintro e w5 ⟨rfl, g5, v5, p5, u5⟩
      have b5 := (HB.out.drew).upd u5 (fun hm => by
        have h1 := H.out.lt w.heap.size
        rw [H.out.fp] at h1
        simp only [List.mem_cons] at hm h1
        rcases hm with hm | hm | hm
        · exact absurd (h1 (.inl hm)) (by omega)
        · exact absurd (h1 (.inr (.inr (.inl hm)))) (by omega)
        · exact absurd (h1 (.inr (.inr (.inr hm)))) (by omega))
      have z0 := b5.cell 0
      have z1 := g5.cell 0
      have z2 := g5.cell 1
      have z3 := g5.frozen 0
      have z4 := g5.frozen 1
      have G5 := hide g5
      have V5 := hide v5
      have P5 := hide p5
      have U5 := hide u5
      clear g5 v5 p5 u5 b5
      go_wp2_with fail
      go_ret
      have hd := H.out
      have hF := hd.fp
      have hu0 : Upd F w w4 := U.out.mono (by simp)
      have hu1 : Upd F w wr := hu0.trans UK.out (by simp [hF])
      have hu2 : Upd F w w5 := hu1.drew.trans U5.out (fun x hx => .inl (by
        rw [hF]
        simp only [List.mem_cons] at hx ⊢
        rcases hx with hx | hx | hx
        · exact .inl hx
        · exact .inr (.inr (.inl hx))
        · exact .inr (.inr (.inr hx))))
      have hs : Upd [g] w5 ((w5.setCell ⟨g, 0, none⟩ (.bool false)).setCell ⟨g, 1, none⟩ (.int .i64 0)) := ((Upd.refl [g] w5).setCell (.inl (by simp)) _).setCell (.inl (by simp)) _
      have hu3 := hu2.trans hs (fun x hx => .inl (by simp at hx; simp [hF, hx]))
      have hg6 := (G5.out.set_ 0 (.bool false)).set_ 1 (.int .i64 0)
      have hd5 := (HC.out.drew).upd U5.out hd.d_far
      refine ⟨rfl, (settled_at (o := false) (l := 0) hd HL.out (by omega) hg6 (hd5.upd hs (fun hm => hd.d_far (by simp at hm; simp [hm]))) (V5.out.upd hs (fun hm => hd.v_far (by simp at hm; simp [hm])))
        (own_kept P5.out hs (fun x hx hm => own_blk_ne hd.pend hd.head (by decide) x (by rw [ownBlock_slice] at hx ⊢; exact hx) (by simpa using hm)))).moved hu3⟩
end Go.Proofs.YtafjolibfbccbaaGreatDoor
