/-
  The reference's Crash.
-/
import Derived.Test.YthjcgaahnpbcdaaRefE
namespace Go.Proofs.Ythjcgaahnpbcdaa
open Go.RowKit
set_option maxRecDepth 100000
set_option maxHeartbeats 1000000

/-- The kept ones of the first k writes. -/
def keptTo (D : DiskS) (keep : List Int) (k : Nat) : List (Nat × List UInt8) := ((List.range k).filter fun i : Nat => decide ((i : Int) ∈ keep)).map fun i : Nat => D.pend[i]?.getD (0, [])
theorem keptTo_all (D : DiskS) (keep : List Int) : keptTo D keep D.pend.length = D.kept keep := rfl
theorem keptTo_yes {D : DiskS} {keep : List Int} {k : Nat} {p : Nat × List UInt8} (h : (k : Int) ∈ keep) (hp : D.pend[k]? = some p) : keptTo D keep (k + 1) = keptTo D keep k ++ [p] := by
  unfold keptTo
  rw [List.range_succ, List.filter_append, List.map_append]
  simp [h, hp]
theorem keptTo_no {D : DiskS} {keep : List Int} {k : Nat} (h : ¬ (k : Int) ∈ keep) : keptTo D keep (k + 1) = keptTo D keep k := by
  unfold keptTo
  rw [List.range_succ, List.filter_append, List.map_append]
  simp [h]
theorem keptTo_length (D : DiskS) (keep : List Int) (k : Nat) : (keptTo D keep k).length ≤ k := by
  unfold keptTo
  rw [List.length_map]
  have := List.length_filter_le (fun i : Nat => decide ((i : Int) ∈ keep)) (List.range k)
  simpa using this

theorem refCrash {F : List Nat} {g : Nat} {D : DiskS} (a : Option Addr) (kn kc : Nat) (keep : List Int) (torn : Int) (w : World) (h : IsRef w F g D) (hp : D.pend.length ≤ 1000000000) (ht : torn ≤ 9223372036854775807) (hk : keep.length = kn) (hk2 : kn ≤ 1000000000)
    (hI : ∀ j v, keep[j]? = some v → ∃ b o, a = some ⟨b, o, none⟩ ∧ b < w.heap.size ∧ b ∉ F ∧ w.cell? ⟨b, o + j, none⟩ = some (.int .i64 v)) :
    Calls Try.prog 33 #[.pointer (some ⟨g, 0, none⟩), .slice a kn kc, .int .i64 torn] w fun e w' => e = .returned (.tuple #[]) ∧ MovedR F w w' g (D.crash keep torn) := by
  obtain ⟨gd, cs, r, A, c, h⟩ := h
  have c1 : w.cell? ⟨g, 1, none⟩ = some (.slice A D.pend.length c) := h.head.cell 1
  have H := hide h
  have HI := hide hI
  have HK := hide hk
  have HT := hide ht
  have hgl := h.head.lt
  obtain ⟨m, Em⟩ : ∃ m, Hid (D.pend.length = m) := ⟨_, rfl⟩
  rw [Em.out] at c1 hp
  clear h hI hk ht
  go_enter Try.func33, Try.ntmps33
  go_wp2_with fail
  go_loopw [6, 7] (fun v i wr => ∃ (k j : Nat) (A2 : Option Addr) (c2 : Nat), k ≤ m ∧ Hid (j = (keptTo D keep k).length) ∧ i = .int .i64 k ∧ v = .slice A2 j c2 ∧ Upd [] w wr ∧ wr.ownsRow w.heap.size 80 2 (.slice A2 j c2) j (pCells (keptTo D keep k)))
    (fun _ i _ => m - (intOf i).toNat)
  case atStart => exact ⟨0, 0, none, 0, Nat.zero_le _, show 0 = _ from rfl, rfl, rfl, Upd.refl _ _, World.ownsRow_nil _ _ _ _⟩
  case round =>
    obtain ⟨k, j, A2, c2, hkm, Ej, rfl, rfl, hu, hrow⟩ := hrel
    have HU := hide hu
    have HR := hide hrow
    have j1 : wr.cell? ⟨g, 1, none⟩ = some (.slice A m c) := by rw [(H.out.head.upd hu (by simp)).cell 1, ← Em.out]; rfl
    clear hu hrow
    by_cases hlt : k < m
    · obtain ⟨gp, rfl⟩ := chg_form H.out.pend (by rw [Em.out]; omega)
      obtain ⟨p, hpk⟩ : ∃ p, D.pend[k]? = some p := ⟨_, List.getElem?_eq_getElem (by rw [Em.out]; exact hlt)⟩
      obtain ⟨po, ps⟩ := p
      have hpe := own_kept H.out.pend HU.out (by simp)
      have q0 := (chg_cell hpe (pCells_get D.pend hpk).1).1
      have q1 := (chg_cell hpe (pCells_get D.pend hpk).2).1
      simp only at q0 q1
      have HPK := hide hpk
      have HA := hide (has_any a kn kc keep (k : Int) wr HK.out hk2 (fun i v hv => by
        obtain ⟨b, o, ha, hb, _, hc⟩ := HI.out i v hv
        exact ⟨b, o, ha, (HU.out.cell (p := ⟨b, o + i, none⟩) hb (by simp)).trans hc⟩))
      clear hpk hpe
      go_wp2_with fail
      refine HA.out.mono ?_
      rintro e w' ⟨rfl, rfl⟩
      by_cases hin : (k : Int) ∈ keep
      · have e : decide ((k : Int) ∈ keep) = true := decide_eq_true hin
        rw [e]
        have HY := hide hin
        clear e hin
        have hjk : j ≤ k := by rw [Ej.out]; exact keptTo_length D keep k
        have O1 := hide (HR.out.alloc (.cells #[.int .i64 (po : Int), .string ⟨ps.toArray⟩] 80))
        have HC := hide (cell_two_new wr (.int .i64 (po : Int)) (.string ⟨ps.toArray⟩) 80)
        have O2 := hide (show ∀ u ∈ [Value.int .i64 (po : Int), .string ⟨ps.toArray⟩], u.oneCell' = true by simp [Value.oneCell'])
        have O3 := hide (show j + 1 ≤ maxLen by unfold maxLen; omega)
        have O4 := hide (show (j + 1) * 24 ≤ 140737488355328 by omega)
        have O5 := hide (show w.heap.size ≤ (wr.alloc (.cells #[.int .i64 (po : Int), .string ⟨ps.toArray⟩] 80)).heap.size by have := HU.out.size; simp; omega)
        have O6 := hide (show ∀ x ∈ (A2.map (·.block)).toList, x ∈ [] ∨ w.heap.size ≤ x from fun x hx => .inr (HR.out.lt x (by rw [ownBlock_slice]; simpa using hx)).1)
        go_wp2_with (at_builtin; refine wpList_append_base rfl (.tmp 22) (.tmp 30) _ rfl w.heap.size 80 _ 2 24 Try.underlying41 info_change rfl (by decide) A2 j c2 (pCells (keptTo D keep k)) rfl O1.out ⟨wr.heap.size, 0, none⟩ 1 1 [.int .i64 (po : Int), .string ⟨ps.toArray⟩] rfl rfl HC.out O2.out O3.out O4.out O5.out ?_; intro A' c' w1 h1 u1 a1; have H1 := hide h1; have U1 := hide u1; clear h1 u1 a1)
        go_roundw
        case rel => exact ⟨k + 1, j + 1, A', c', by omega, show j + 1 = _ by rw [keptTo_yes HY.out HPK.out, List.length_append, ← Ej.out]; rfl, by go_num, rfl, (HU.out.alloc _).trans U1.out O6.out, by
          have e : pCells (keptTo D keep (k + 1)) = pCells (keptTo D keep k) ++ [.int .i64 (po : Int), .string ⟨ps.toArray⟩] := by rw [keptTo_yes HY.out HPK.out]; simp [pCells]
          rw [e]; exact H1.out⟩
        case measure => simp [intOf] <;> omega
      · have e : decide ((k : Int) ∈ keep) = false := decide_eq_false hin
        have HN := hide hin
        rw [e]
        clear e hin
        go_wp2_with fail
        go_roundw
        case rel => exact ⟨k + 1, j, A2, c2, by omega, show j = _ by rw [keptTo_no HN.out]; exact Ej.out, by go_num, rfl, HU.out, by rw [keptTo_no HN.out]; exact HR.out⟩
        case measure => simp [intOf] <;> omega
    · obtain rfl : k = m := by omega
      obtain ⟨wo, rfl⟩ : ∃ wo : World, wo = wr := ⟨_, rfl⟩
      obtain ⟨L, EL⟩ : ∃ L, Hid (keptTo D keep k = L) := ⟨_, rfl⟩
      rw [EL.out] at Ej HR
      have HLk := hide (show D.kept keep = L by rw [← keptTo_all, Em.out]; exact EL.out)
      have hjk : j ≤ k := by rw [Ej.out, ← EL.out]; exact keptTo_length D keep k
      have hlen0 : ∀ q, (puts D.sure ((lastTorn torn L).take q)).length = D.sure.length := fun q => by
        rw [puts_length]
        intro x hx
        rw [← HLk.out] at hx
        exact torn_fits H.out.ok keep torn x (List.mem_of_mem_take hx)
      have HLEN := hide hlen0
      have HS0 := hide (H.out.sure.upd HU.out (by simp))
      clear hlen0
      go_wp2_with fail
      go_loopw [8, 9] (fun i _ wr => ∃ q : Nat, q ≤ j ∧ i = .int .i64 q ∧ Upd [gd] wo wr ∧ Blk wr gd 5 (bCells (puts D.sure ((lastTorn torn L).take q)) ++ r))
        (fun i _ _ => j - (intOf i).toNat)
      case atStart => exact ⟨0, Nat.zero_le _, rfl, Upd.refl _ _, HS0.out⟩
      case round =>
        obtain ⟨q, hq, rfl, hu2, hg2⟩ := hrel
        have HU2 := hide hu2
        have HG2 := hide hg2
        clear hu2 hg2
        have j0 : wr.cell? ⟨g, 0, none⟩ = some (.slice (some ⟨gd, 0, none⟩) D.sure.length cs) := ((H.out.head.upd HU.out (by simp)).upd HU2.out (by simp; exact fun e => H.out.g_far (by simp [e]))).cell 0
        by_cases hqj : q < j
        · obtain ⟨ga, rfl⟩ := chg_form (own_zero HR.out) (by omega)
          have hga : w.heap.size ≤ ga := (HR.out.lt ga rfl).1
          have hrow := own_kept (own_zero HR.out) HU2.out (fun x hx hm => by
            have h1 := H.out.sure.lt
            simp [Value.ownBlock] at hx hm
            omega)
          obtain ⟨p, hpk⟩ : ∃ p, L[q]? = some p := ⟨_, List.getElem?_eq_getElem (by rw [← Ej.out]; exact hqj)⟩
          obtain ⟨po, ps⟩ := p
          have q0 := (chg_cell hrow (pCells_get L hpk).1).1
          have q1 := (chg_cell hrow (pCells_get L hpk).2).1
          simp only at q0 q1
          have hpf := kept_fits H.out.ok keep (po, ps) (by rw [HLk.out]; exact List.mem_of_getElem? hpk)
          simp only at hpf
          have HPF := hide hpf
          have HPK := hide hpk
          have hmx := H.out.ok.max
          have hszp : (⟨ps.toArray⟩ : ByteArray).size = ps.length := rfl
          clear hrow hpk hpf
          by_cases hc1 : q + 1 = j
          · subst hc1
            by_cases hc2 : 0 ≤ torn
            · by_cases hc3 : torn < ps.length
              · obtain ⟨x, Ex⟩ : ∃ x, Hid ((⟨ps.toArray⟩ : ByteArray).extract 0 torn.toNat = x) := ⟨_, rfl⟩
                have hxl : x.data.toList = ps.take torn.toNat := by rw [← Ex.out, Lib.extract_data]; simp
                have HX := hide hxl
                have hxs : x.size = (ps.take torn.toNat).length := by rw [← hxl, ← Lib.size_eq]
                have GET := hide (torn_get torn L HPK.out (p' := (po, x.data.toList)) (by rw [if_pos ⟨Ej.out, hc2⟩, hxl]))
                have AP := hide (apply_any (off := po) (c := cs) x _ r wr.drew HG2.out (HLEN.out q) (by have := HPF.out; rw [hxs]; simp; omega) hmx)
                have HT2 := HT.out
                clear hxl hxs
                go_wp2_with fail
                rw [Ex.out]
                go_still_tail 10, (by kernel_rfl)
                change wpList _ _ _ _ _ wr.drew
                go_wp2_with fail
                refine AP.out.mono ?_
                rintro e w5 ⟨rfl, g5, u5⟩
                have U5 := hide (HU2.out.drew.trans u5 (by simp))
                have G5 := hide (show Blk w5 gd 5 (bCells (puts D.sure ((lastTorn torn L).take (q + 1))) ++ r) by rw [puts_snoc _ _ GET.out]; exact g5)
                clear g5 u5 AP
                go_wp2_with fail
                go_roundw
                case rel => first | exact ⟨q + 1, by omega, by go_num, U5.out, G5.out⟩ | ((repeat apply Exists.intro); exact ⟨⟨q + 1, by omega, by go_num, U5.out, G5.out⟩, rfl⟩)
                case measure => simp [intOf] <;> omega
              · have GET := hide (torn_get torn L HPK.out (p' := (po, ps)) (by rw [if_pos ⟨by exact Ej.out, hc2⟩, List.take_of_length_le (show ps.length ≤ torn.toNat by omega)]))
                have AP := hide (apply_any (off := po) (c := cs) ⟨ps.toArray⟩ _ r wr.drew HG2.out (HLEN.out q) (by show po + ps.toArray.size ≤ _; have := HPF.out; simpa using this) hmx)
                go_wp2_with fail
                go_still_tail 10, (by kernel_rfl)
                change wpList _ _ _ _ _ wr.drew
                go_wp2_with fail
                refine AP.out.mono ?_
                rintro e w5 ⟨rfl, g5, u5⟩
                have U5 := hide (HU2.out.drew.trans u5 (by simp))
                have G5 := hide (show Blk w5 gd 5 (bCells (puts D.sure ((lastTorn torn L).take (q + 1))) ++ r) by rw [puts_snoc _ _ GET.out]; exact g5)
                clear g5 u5 AP
                go_wp2_with fail
                go_roundw
                case rel => first | exact ⟨q + 1, by omega, by go_num, U5.out, G5.out⟩ | ((repeat apply Exists.intro); exact ⟨⟨q + 1, by omega, by go_num, U5.out, G5.out⟩, rfl⟩)
                case measure => simp [intOf] <;> omega
            · have GET := hide (torn_get torn L HPK.out (p' := (po, ps)) (if_neg (fun h => by have := h.2; omega)))
              have AP := hide (apply_any (off := po) (c := cs) ⟨ps.toArray⟩ _ r wr.drew HG2.out (HLEN.out q) (by show po + ps.toArray.size ≤ _; have := HPF.out; simpa using this) hmx)
              go_wp2_with fail
              go_still_tail 10, (by kernel_rfl)
              change wpList _ _ _ _ _ wr.drew
              go_wp2_with fail
              refine AP.out.mono ?_
              rintro e w5 ⟨rfl, g5, u5⟩
              have U5 := hide (HU2.out.drew.trans u5 (by simp))
              have G5 := hide (show Blk w5 gd 5 (bCells (puts D.sure ((lastTorn torn L).take (q + 1))) ++ r) by rw [puts_snoc _ _ GET.out]; exact g5)
              clear g5 u5 AP
              go_wp2_with fail
              go_roundw
              case rel => first | exact ⟨q + 1, by omega, by go_num, U5.out, G5.out⟩ | ((repeat apply Exists.intro); exact ⟨⟨q + 1, by omega, by go_num, U5.out, G5.out⟩, rfl⟩)
              case measure => simp [intOf] <;> omega
          · have GET := hide (torn_get torn L HPK.out (p' := (po, ps)) (if_neg (fun h => hc1 (by rw [Ej.out]; exact h.1))))
            have AP := hide (apply_any (off := po) (c := cs) ⟨ps.toArray⟩ _ r wr.drew HG2.out (HLEN.out q) (by show po + ps.toArray.size ≤ _; have := HPF.out; simpa using this) hmx)
            go_wp2_with fail
            go_still_tail 10, (by kernel_rfl)
            change wpList _ _ _ _ _ wr.drew
            go_wp2_with fail
            refine AP.out.mono ?_
            rintro e w5 ⟨rfl, g5, u5⟩
            have U5 := hide (HU2.out.drew.trans u5 (by simp))
            have G5 := hide (show Blk w5 gd 5 (bCells (puts D.sure ((lastTorn torn L).take (q + 1))) ++ r) by rw [puts_snoc _ _ GET.out]; exact g5)
            clear g5 u5 AP
            go_wp2_with fail
            go_roundw
            case rel => first | exact ⟨q + 1, by omega, by go_num, U5.out, G5.out⟩ | ((repeat apply Exists.intro); exact ⟨⟨q + 1, by omega, by go_num, U5.out, G5.out⟩, rfl⟩)
            case measure => simp [intOf] <;> omega
        · obtain rfl : q = j := by omega
          have b1 := (H.out.head.upd HU.out (by simp)).upd HU2.out (by simp; exact fun e => H.out.g_far (by simp [e]))
          have k1 := b1.cell 1
          have k2 := b1.cell 2
          have k3 := b1.cell 3
          have f1 := b1.frozen 1
          have f2 := b1.frozen 2
          have f3 := b1.frozen 3
          have B1 := hide b1
          clear b1
          go_wp2_with fail
          go_end0
          have hh := ((B1.out.set_ 1 (.slice none 0 0)).set_ 2 (.bool false)).set_ 3 (.int .i64 0)
          have ug : Upd [g] wr (((wr.setCell ⟨g, 1, none⟩ (.slice none 0 0)).setCell ⟨g, 2, none⟩ (.bool false)).setCell ⟨g, 3, none⟩ (.int .i64 0)) := (((Upd.refl [g] wr).setCell (.inl (by simp)) _).setCell (.inl (by simp)) _).setCell (.inl (by simp)) _
          have hall : (lastTorn torn L).take q = lastTorn torn L := List.take_of_length_le (by simp [lastTorn]; rw [← Ej.out]; exact Nat.le_refl _)
          have hlen := HLEN.out q
          rw [hall] at hlen
          have hD : D.crash keep torn = { D.settled (puts D.sure (lastTorn torn L)) with off := false, left := 0 } := by unfold DiskS.crash; rw [HLk.out]
          rw [hD]
          have hF := H.out.fp
          refine ⟨rfl, [g, gd], ⟨gd, cs, r, none, 0, ⟨?_, ?_, ?_, World.ownsRow_nil _ _ _ _, rfl, ?_⟩⟩, ?_, ?_⟩
          · show Blk _ g _ [.slice (some ⟨gd, 0, none⟩) (puts D.sure (lastTorn torn L)).length cs, .slice none 0 0, .bool false, .int .i64 0]
            rw [hlen]
            exact hh
          · show Blk _ gd _ (bCells (puts D.sure (lastTorn torn L)) ++ r)
            rw [← hall]
            exact HG2.out.upd ug (by simp; exact fun e => H.out.g_far (by simp [e]))
          · show (puts D.sure (lastTorn torn L)).length + r.length = cs ∧ cs ≤ maxLen
            rw [hlen]
            exact H.out.cap
          · exact ⟨rfl, by show 1 ≤ (puts D.sure (lastTorn torn L)).length; rw [hlen]; exact H.out.ok.pos, by show (puts D.sure (lastTorn torn L)).length ≤ _; rw [hlen]; exact H.out.ok.max, by simp [DiskS.settled], Nat.zero_le _⟩
          · exact ((HU.out.mono (by simp)).trans HU2.out (by simp [hF])).trans ug (by simp [hF])
          · intro x hx
            simp at hx
            rcases hx with rfl | rfl
            · exact .inl (by simp [hF])
            · exact .inl (by simp [hF])
end Go.Proofs.Ythjcgaahnpbcdaa
