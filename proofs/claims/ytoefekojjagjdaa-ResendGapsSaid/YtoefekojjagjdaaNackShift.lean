/-
  The law NackShift as a walk: pairs moved by as much ask for numbers moved by as much. Of the arguments: they fit their types, and the slice is not too long.
-/
import Derived.Test.YtoefekojjagjdaaNackArgs
namespace Go.Proofs.Ytoefekojjagjdaa
open Go.RowKit Go.Sort Go.BigFrame
set_option linter.unusedVariables false
attribute [local go_sem ↓] Go.wp_at_zero Go.wp_at_succ
def moved (l : List (Int × Int)) (s : Int) : List (Int × Int) := l.map fun x => ((x.1 + s) % 65536, x.2)
theorem part_moved (p b s : Int) (i : Nat) : part ((p + s) % 65536) b i = (part p b i).map (fun x => (x + s) % 65536) := by
  unfold part
  rw [List.map_cons, List.map_map]
  congr 1
  apply List.map_congr_left
  intro j _
  simp only [Function.comp_apply]
  omega
theorem expand_moved (l : List (Int × Int)) (s : Int) : expand (moved l s) = (expand l).map (fun x => (x + s) % 65536) := by
  induction l with
  | nil => rfl
  | cons x r ih =>
    simp only [moved, expand, List.map_cons, List.flatMap_cons, List.map_append] at *
    rw [ih, part_moved]
theorem moved_take (l : List (Int × Int)) (s : Int) (k : Nat) (h : k < l.length) : moved (l.take (k + 1)) s = moved (l.take k) s ++ [((l[k].1 + s) % 65536, l[k].2)] := by
  unfold moved; rw [List.take_succ_eq_append_getElem h, List.map_append]; rfl
theorem moved_fits (l : List (Int × Int)) (s : Int) (h : fitsP l) : fitsP (moved l s) := by
  intro x hx
  simp only [moved, List.mem_map] at hx
  obtain ⟨y, hy, rfl⟩ := hx
  have := h y hy
  refine ⟨?_, ?_, this.2.2.1, this.2.2.2⟩ <;> dsimp only <;> omega
theorem getD_map (m : List Int) (s : Int) (k : Nat) (h : k < m.length) : (m.map (fun x => (x + s) % 65536)).getD k 0 = (m.getD k 0 + s) % 65536 := by
  simp [List.getD_eq_getElem?_getD, h]
set_option maxRecDepth 100000 in
set_option maxHeartbeats 4000000 in
theorem nackShift_ok (v0 v1 : Value) (w : World) (h0 : Arg Try.prog w 39 v0) (h1 : Arg Try.prog w 22 v1) (s0 : Small v0) : Calls Try.prog 11 #[v0, v1] w (Gives (.bool true) w) := by
  obtain ⟨l, hf, hh⟩ := arg_prs h0
  obtain ⟨s, rfl, hs, hs'⟩ := arg_u16 Try.underlying22 h1
  obtain ⟨ao, cap, hv, hcap, hcap'⟩ := hh.shape
  obtain ⟨n, hn⟩ : ∃ n, n = l.length := ⟨_, rfl⟩
  have hn' : n ≤ 1048576 := by rw [hn]; exact s0 ao _ cap hv
  have kx := fun (w' : World) (k : Below w.heap.size w w') => expandR (hh.keep k) rfl hf (by omega)
  have ky := fun (w' : World) (v : Value) (h : Has w' 2 v n (prs (moved l s))) => expandR h (by rw [hn]; simp [moved]) (moved_fits l s hf) (by omega)
  rw [expand_moved] at ky
  obtain ⟨E, hE⟩ : ∃ E, E = expand l := ⟨_, rfl⟩
  have hel : E.length ≤ 17 * n := by rw [hE, hn]; exact expand_len l
  rw [← hE] at kx ky
  rw [List.length_map] at ky
  rw [← hn] at hh hv hcap
  have KX := Lib.hid kx
  have KY := Lib.hid ky
  have HH := Lib.hid hh
  have HN := Lib.hid hn
  have HF := Lib.hid hf
  subst hv
  unfold maxLen at hcap'
  clear kx ky h0 h1 s0 hE hf hn hh
  obtain ⟨i0, hi, hz0, hz1, hz2⟩ := info_parts info43
  have HI := And.intro (Lib.hid hi) (And.intro (Lib.hid hz0) (And.intro (Lib.hid hz1) (Lib.hid hz2)))
  clear hi hz0 hz1 hz2
  go_enter Try.func11, Try.ntmps11
  go_wp2_with (first | (go_at_call 27; refine (shown8 _).mono ?_; rintro e w1 ⟨rfl, hb1⟩; have ha1 : After _ w1 := ⟨hb1⟩; obtain ⟨hc1, hf1⟩ := after hb1; have hz1 := hb1.size; try simp at hz1))
  obtain ⟨W, hW⟩ : ∃ W : World, W = w1 := ⟨_, rfl⟩
  subst hW
  have hWb : RowKit.Below w.heap.size w W := (by repeat (first | with_reducible exact Below.refl _ _ | (with_reducible refine Below.alloc ?_ ?_ _; rotate_left; focus ((try simp) <;> omega)) | (with_reducible refine Below.setCell ?_ ?_ _; rotate_left; focus ((try simp) <;> omega)) | (with_reducible refine below_grow ?_ ?_; rotate_left; focus ((try simp) <;> omega)) | (with_reducible refine below_putB ?_ ?_; rotate_left; focus ((try simp) <;> omega)) | with_reducible refine Below.drew ?_ | with_reducible refine below_drewN ?_ | with_reducible assumption | (with_reducible refine below_step (by assumption) ?_ ?_; rotate_left; focus ((try simp) <;> omega))))
  have hWs := hWb.size
  clear hc1 hf1 ha1 hb1 hz1
  go_loopw [5, 15] (fun s5 s15 wr => ∃ k : Nat, k ≤ n ∧ s15 = .int .i64 k ∧ Line wr W.heap.size 2 s5 k (prs (moved (l.take k) s)) ∧ Below W.heap.size W wr) (fun _ i _ => n - (intOf i).toNat)
  case atStart => exact ⟨0, by omega, rfl, Line.nil W W.heap.size 2, Below.refl _ _⟩
  case round =>
    obtain ⟨k, hk, rfl, hown, hbel⟩ := hrel
    have hbs := hbel.size
    obtain ⟨wo, hwo⟩ : ∃ wo : World, wo = wr := ⟨_, rfl⟩
    subst hwo
    by_cases hlt : k < n
    · obtain ⟨g, off, rfl, hg, hcell⟩ := HH.out.cell (by omega)
      have hkl : k < l.length := by rw [← HN.out]; exact hlt
      obtain ⟨p, b, hpb⟩ : ∃ p b, (p, b) = l[k] := ⟨_, _, rfl⟩
      have hget := prs_get l k hkl
      rw [← hpb] at hget
      have c0 : wo.cell? ⟨g, off + k * 2, none⟩ = some (.int .u16 p) := by rw [hbel.cell (by simp; omega), hWb.cell (by simpa using hg)]; exact hcell _ _ hget.1
      have c1 : wo.cell? ⟨g, off + k * 2 + 1, none⟩ = some (.int .u16 b) := by rw [hbel.cell (by simp; omega), hWb.cell (by simpa using hg)]; exact hcell _ _ hget.2
      obtain ⟨p0, p1, b0, b1⟩ := HF.out (p, b) (by rw [hpb]; exact List.getElem_mem _)
      have hmv := moved_take l s k hkl
      rw [← hpb] at hmv
      have HX := Lib.hid hmv
      have og : Old g wo := ⟨by omega⟩
      have i3 : (k : Int) < (n : Int) := by omega
      have i4 : (0 : Int) ≤ (k : Int) := by omega
      have HO := Lib.hid hown
      clear hget hcell hmv hpb hown
      dsimp only at p0 p1 b0 b1
      go_wp2_with (at_builtin; refine wpList_append_line _ rfl _ _ 39 rfl W.heap.size 43 i0 _ 2 4 Try.underlying39 HI.1.out HI.2.1.out HI.2.2.1.out HI.2.2.2.out rfl (by decide) _ _ k 1 _ [.int .u16 ((p + s) % 65536), .int .u16 b] rfl rfl (HO.out.keep (by repeat (first | with_reducible exact Below.refl _ _ | (with_reducible refine Below.alloc ?_ ?_ _; rotate_left; focus ((try simp) <;> omega)) | (with_reducible refine Below.setCell ?_ ?_ _; rotate_left; focus ((try simp) <;> omega)) | (with_reducible refine below_grow ?_ ?_; rotate_left; focus ((try simp) <;> omega)) | (with_reducible refine below_putB ?_ ?_; rotate_left; focus ((try simp) <;> omega)) | with_reducible refine Below.drew ?_ | with_reducible refine below_drewN ?_ | with_reducible assumption | (with_reducible refine below_step (by assumption) ?_ ?_; rotate_left; focus ((try simp) <;> omega))))) (Src.one rfl (by simp [Value.oneCell']) (at_pair (by simp [go_sem]) (by simp [go_sem]))) (by unfold maxLen; omega) (by omega) (by simp; omega) _ rfl ?_; intro v2 w2 hown2 hgrow2 hat2)
      have hB2 : RowKit.Below W.heap.size W w2 := RowKit.Below.grown (w := (wo.alloc _).alloc _) (by repeat (first | with_reducible exact Below.refl _ _ | (with_reducible refine Below.alloc ?_ ?_ _; rotate_left; focus ((try simp) <;> omega)) | (with_reducible refine Below.setCell ?_ ?_ _; rotate_left; focus ((try simp) <;> omega)) | (with_reducible refine below_grow ?_ ?_; rotate_left; focus ((try simp) <;> omega)) | (with_reducible refine below_putB ?_ ?_; rotate_left; focus ((try simp) <;> omega)) | with_reducible refine Below.drew ?_ | with_reducible refine below_drewN ?_ | with_reducible assumption | (with_reducible refine below_step (by assumption) ?_ ?_; rotate_left; focus ((try simp) <;> omega)))) hgrow2 (by simp; omega) (fun r hr => (HO.out.lt hr).1)
      have HO3 := Lib.hid hown2
      clear hown2 hgrow2 hat2
      go_roundw
      case rel =>
        refine ⟨k + 1, by omega, by go_num, ?_, hB2⟩
        rw [HX.out, prs_snoc]
        exact HO3.out
      case measure => simp [intOf]; omega
    · obtain rfl : k = n := by omega
      have ht : l.take k = l := List.take_of_length_le (by rw [← HN.out]; exact Nat.le_refl _)
      rw [ht] at hown
      have HO := Lib.hid hown
      have B0 : RowKit.Below w.heap.size w wo := hWb.trans (hbel.mono hWs)
      clear hown ht
      go_wp2_with fail
      refine (KX.out _ B0).mono ?_; rintro e w2 ⟨v2, rfl, hL2, hb2⟩
      go_wp2_with fail
      refine (KY.out _ _ (Has.of_line (HO.out.keep hb2))).mono ?_; rintro e w3 ⟨v3, rfl, hL3, hb3⟩
      have HX := Lib.hid ((Has.of_line hL2).keep hb3)
      have HY := Lib.hid (Has.of_line hL3)
      have B0s := B0.size
      have B2 : RowKit.Below w.heap.size w w2 := (by repeat (first | with_reducible exact Below.refl _ _ | (with_reducible refine Below.alloc ?_ ?_ _; rotate_left; focus ((try simp) <;> omega)) | (with_reducible refine Below.setCell ?_ ?_ _; rotate_left; focus ((try simp) <;> omega)) | (with_reducible refine below_grow ?_ ?_; rotate_left; focus ((try simp) <;> omega)) | (with_reducible refine below_putB ?_ ?_; rotate_left; focus ((try simp) <;> omega)) | with_reducible refine Below.drew ?_ | with_reducible refine below_drewN ?_ | with_reducible assumption | (with_reducible refine below_step (by assumption) ?_ ?_; rotate_left; focus ((try simp) <;> omega))))
      have B2s := B2.size
      have B3 : RowKit.Below w.heap.size w w3 := (by repeat (first | with_reducible exact Below.refl _ _ | (with_reducible refine Below.alloc ?_ ?_ _; rotate_left; focus ((try simp) <;> omega)) | (with_reducible refine Below.setCell ?_ ?_ _; rotate_left; focus ((try simp) <;> omega)) | (with_reducible refine below_grow ?_ ?_; rotate_left; focus ((try simp) <;> omega)) | (with_reducible refine below_putB ?_ ?_; rotate_left; focus ((try simp) <;> omega)) | with_reducible refine Below.drew ?_ | with_reducible refine below_drewN ?_ | with_reducible assumption | (with_reducible refine below_step (by assumption) ?_ ?_; rotate_left; focus ((try simp) <;> omega))))
      have B3s := B3.size
      obtain ⟨a2, c2, rfl, _, hm2⟩ := HX.out.shape
      obtain ⟨a3, c3, rfl, _, hm3⟩ := HY.out.shape
      unfold maxLen at hm2 hm3
      clear hL2 hL3 hb2 hb3
      go_wp2_with fail
      obtain ⟨wo3, hwo3⟩ : ∃ wo : World, wo = w3 := ⟨_, rfl⟩
      subst hwo3
      go_loopw [41] (fun s41 wr => ∃ i : Nat, i ≤ E.length ∧ s41 = .int .i64 i ∧ Below wo3.heap.size wo3 wr) (fun i _ => E.length - (intOf i).toNat)
      case atStart => exact ⟨0, by omega, rfl, Below.refl _ _⟩
      case round =>
        obtain ⟨i, hi, rfl, hB⟩ := hrel
        have hBs := hB.size
        by_cases hlt : i < E.length
        · obtain ⟨g1, o1, c1, e1, l1, q0⟩ := has_cell1 HX.out rfl i hlt
          obtain ⟨g2, o2, c2', e2, l2, q1⟩ := has_cell1 HY.out (by simp) i hlt
          simp only [Value.slice.injEq, true_and] at e1 e2
          obtain ⟨rfl, rfl⟩ := e1
          obtain ⟨rfl, rfl⟩ := e2
          rw [getD_map _ _ _ hlt] at q1
          rw [← hB.cell (by simpa using l1)] at q0
          rw [← hB.cell (by simpa using l2)] at q1
          generalize E.getD i 0 = x at q0 q1
          have i3 : (i : Int) < (E.length : Int) := by omega
          have i4 : (0 : Int) ≤ (i : Int) := by omega
          go_wp2
          go_region
          all_goals go_wp2
          all_goals go_roundw
          case rel => exact ⟨i + 1, by omega, by go_num, (by repeat (first | with_reducible exact Below.refl _ _ | (with_reducible refine Below.alloc ?_ ?_ _; rotate_left; focus ((try simp) <;> omega)) | (with_reducible refine Below.setCell ?_ ?_ _; rotate_left; focus ((try simp) <;> omega)) | (with_reducible refine below_grow ?_ ?_; rotate_left; focus ((try simp) <;> omega)) | (with_reducible refine below_putB ?_ ?_; rotate_left; focus ((try simp) <;> omega)) | with_reducible refine Below.drew ?_ | with_reducible refine below_drewN ?_ | with_reducible assumption | (with_reducible refine below_step (by assumption) ?_ ?_; rotate_left; focus ((try simp) <;> omega))))⟩
          case measure => simp [intOf]; omega
        · go_wp2
          refine ret_any ⟨_, by simp [results, Try.results11, go_sem, *]; rfl, ?_⟩ rfl
          exact gives_of rfl (by repeat (first | with_reducible exact Below.refl _ _ | (with_reducible refine Below.alloc ?_ ?_ _; rotate_left; focus ((try simp) <;> omega)) | (with_reducible refine Below.setCell ?_ ?_ _; rotate_left; focus ((try simp) <;> omega)) | (with_reducible refine below_grow ?_ ?_; rotate_left; focus ((try simp) <;> omega)) | (with_reducible refine below_putB ?_ ?_; rotate_left; focus ((try simp) <;> omega)) | with_reducible refine Below.drew ?_ | with_reducible refine below_drewN ?_ | with_reducible assumption | (with_reducible refine below_step (by assumption) ?_ ?_; rotate_left; focus ((try simp) <;> omega))))
end Go.Proofs.Ytoefekojjagjdaa
