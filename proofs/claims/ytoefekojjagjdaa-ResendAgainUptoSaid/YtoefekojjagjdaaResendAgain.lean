/-
  ResendAgain: pairs, one behind the other, are answered one behind the other. For slices that are not too long.
-/
import Derived.Test.YtoefekojjagjdaaResendAll
namespace Go.Proofs.Ytoefekojjagjdaa
open Go.RowKit Go.Sort Go.BigFrame
set_option linter.unusedVariables false
attribute [local go_sem ↓] Go.wp_at_zero Go.wp_at_succ
theorem ofL_join (l : List Ent) (E R : List Int) : ofL l (E ++ R) = ofL l E ++ ofL l R := by simp [ofL]
set_option maxRecDepth 100000 in
set_option maxHeartbeats 8000000 in
theorem resendAgain_ok (v0 v1 v2 : Value) (w : World) (h0 : Arg Try.prog w 48 v0) (h1 : Arg Try.prog w 39 v1) (h2 : Arg Try.prog w 39 v2) (s0 : Small v0) (s1 : Small v1) (s2 : Small v2) : Calls Try.prog 17 #[v0, v1, v2] w (Gives (.bool true) w) := by
  obtain ⟨l, hf, hh⟩ := arg_ents h0
  obtain ⟨a, ha, hha⟩ := arg_prs h1
  obtain ⟨b, hb, hhb⟩ := arg_prs h2
  obtain ⟨ao, cap, hv, hcap, hcap'⟩ := hh.shape
  obtain ⟨am, cam, hva, hcam, hcam'⟩ := hha.shape
  obtain ⟨bm, cbm, hvb, hcbm, hcbm'⟩ := hhb.shape
  have hn' : l.length ≤ 1048576 := s0 ao _ cap hv
  have ha' : a.length ≤ 1048576 := s1 am _ cam hva
  have hb' : b.length ≤ 1048576 := s2 bm _ cbm hvb
  have k1 := fun (w' : World) (k : Below w.heap.size w w') => ofR (hh.keep k) rfl (by omega) (hha.keep k) rfl ha (by omega)
  have k2 := fun (w' : World) (k : Below w.heap.size w w') => ofR (hh.keep k) rfl (by omega) (hhb.keep k) rfl hb (by omega)
  have k3 := fun (w' : World) (k : Below w.heap.size w w') (v : Value) (h : Has w' 2 v (a.length + b.length) (prs (a ++ b))) => ofR (hh.keep k) rfl (by omega) h (by simp) (fun x hx => (List.mem_append.1 hx).elim (ha x) (hb x)) (by omega)
  rw [expand_join, ofL_join] at k3
  have ea : (expand a).length ≤ 17 * a.length := expand_len a
  have eb : (expand b).length ≤ 17 * b.length := expand_len b
  have oa : (ofL l (expand a)).length ≤ (expand a).length := ofL_len _ _
  have ob : (ofL l (expand b)).length ≤ (expand b).length := ofL_len _ _
  obtain ⟨c1, hc1⟩ : ∃ c : Int, c = ((expand a).length : Int) - (ofL l (expand a)).length := ⟨_, rfl⟩
  obtain ⟨c2, hc2⟩ : ∃ c : Int, c = ((expand b).length : Int) - (ofL l (expand b)).length := ⟨_, rfl⟩
  have hc3 : (((expand a ++ expand b).length : Nat) : Int) - ((ofL l (expand a) ++ ofL l (expand b)).length : Nat) = c1 + c2 := by
    rw [List.length_append, List.length_append, hc1, hc2]; omega
  rw [hc3] at k3
  rw [← hc1] at k1
  rw [← hc2] at k2
  have c10 : 0 ≤ c1 := by omega
  have c11 : c1 ≤ 20000000 := by omega
  have c20 : 0 ≤ c2 := by omega
  have c21 : c2 ≤ 20000000 := by omega
  obtain ⟨A, hA⟩ : ∃ A, A = ofL l (expand a) := ⟨_, rfl⟩
  obtain ⟨B, hB⟩ : ∃ B, B = ofL l (expand b) := ⟨_, rfl⟩
  rw [← hA] at k1 k3 oa
  rw [← hB] at k2 k3 ob
  have ks := fun (w' : World) (v v' : Value) (h : Has w' 7 v (A ++ B).length (ents (A ++ B))) (h' : Has w' 7 v' (A ++ B).length (ents (A ++ B))) => sameE h h' rfl (by rw [List.length_append]; omega)
  have hAl : A.length ≤ 20000000 := by omega
  have hBl : B.length ≤ 20000000 := by omega
  obtain ⟨n, hn⟩ : ∃ n, n = a.length := ⟨_, rfl⟩
  obtain ⟨m, hm⟩ : ∃ m, m = b.length := ⟨_, rfl⟩
  rw [← hn] at hha hva hcam ha' k3
  rw [← hm] at hhb hvb hcbm hb' k3
  have K1 := Lib.hid k1
  have K2 := Lib.hid k2
  have K3 := Lib.hid k3
  have KS := Lib.hid ks
  have HA := Lib.hid hha
  have HB := Lib.hid hhb
  subst hv hva hvb
  unfold maxLen at hcap' hcam' hcbm'
  clear k1 k2 k3 ks hc1 hc2 hc3 hA hB hn hm ea eb oa ob h0 h1 h2 s0 s1 s2 hf ha hb hh hha hhb
  obtain ⟨i0, hi, hz0, hz1, hz2⟩ := info_parts info43
  have HI := And.intro (Lib.hid hi) (And.intro (Lib.hid hz0) (And.intro (Lib.hid hz1) (Lib.hid hz2)))
  obtain ⟨j0, hj, hy0, hy1, hy2⟩ := info_parts info59
  have HJ := And.intro (Lib.hid hj) (And.intro (Lib.hid hy0) (And.intro (Lib.hid hy1) (Lib.hid hy2)))
  clear hi hz0 hz1 hz2 hj hy0 hy1 hy2
  go_enter Try.func17, Try.ntmps17
  go_wp2_with (first | (go_at_call 34; refine (shown19 _).mono ?_; rintro e w1 ⟨rfl, hb1⟩; have ha1 : After _ w1 := ⟨hb1⟩; obtain ⟨hc1, hf1⟩ := after hb1; have hz1 := hb1.size; try simp at hz1))
  refine (K1.out _ (by repeat (first | with_reducible exact Below.refl _ _ | (with_reducible refine Below.alloc ?_ ?_ _; rotate_left; focus ((try simp) <;> omega)) | (with_reducible refine Below.setCell ?_ ?_ _; rotate_left; focus ((try simp) <;> omega)) | (with_reducible refine below_grow ?_ ?_; rotate_left; focus ((try simp) <;> omega)) | (with_reducible refine below_putB ?_ ?_; rotate_left; focus ((try simp) <;> omega)) | with_reducible refine Below.drew ?_ | with_reducible refine below_drewN ?_ | with_reducible assumption | (with_reducible refine below_step (by assumption) ?_ ?_; rotate_left; focus ((try simp) <;> omega))))).mono ?_; rintro e w2 ⟨v2, rfl, hL2, hb2⟩
  have B2 : RowKit.Below w.heap.size w w2 := (by repeat (first | with_reducible exact Below.refl _ _ | (with_reducible refine Below.alloc ?_ ?_ _; rotate_left; focus ((try simp) <;> omega)) | (with_reducible refine Below.setCell ?_ ?_ _; rotate_left; focus ((try simp) <;> omega)) | (with_reducible refine below_grow ?_ ?_; rotate_left; focus ((try simp) <;> omega)) | (with_reducible refine below_putB ?_ ?_; rotate_left; focus ((try simp) <;> omega)) | with_reducible refine Below.drew ?_ | with_reducible refine below_drewN ?_ | with_reducible assumption | (with_reducible refine below_step (by assumption) ?_ ?_; rotate_left; focus ((try simp) <;> omega))))
  have B2s := B2.size
  have L2 := Lib.hid (hL2.weak (base' := w.heap.size) (by omega))
  clear hL2 hb2 hc1 hf1 ha1 hb1 hz1
  go_wp2_with fail
  refine (K2.out _ B2).mono ?_; rintro e w3 ⟨v3, rfl, hL3, hb3⟩
  have B3 : RowKit.Below w.heap.size w w3 := B2.trans (hb3.mono B2s)
  have B3s := B3.size
  have L2' := Lib.hid (L2.out.keep hb3)
  have L3 := Lib.hid (hL3.weak (base' := w.heap.size) B2s)
  clear hL3 hb3 L2
  go_wp2_with (first | (at_builtin; refine wpList_append_line _ rfl _ _ 39 rfl w.heap.size 43 i0 _ 2 4 Try.underlying39 HI.1.out HI.2.1.out HI.2.2.1.out HI.2.2.2.out rfl (by decide) (.slice none 0 0) _ (0) (n) ([]) (prs a) rfl rfl (Line.nil _ _ _) ((HA.out.keep B3).src' (prs_one _)) (by unfold maxLen; omega) (by omega) (by first | omega | (simp; omega)) _ rfl ?_; intro v4 w4 hown4 hgrow4 hat4; have B4 : RowKit.Below w.heap.size w w4 := RowKit.Below.grown (w := w3) B3 hgrow4 (by omega) (fun q hq => by simp [Value.ownBlock] at hq); have B4' : RowKit.Below w3.heap.size w3 w4 := RowKit.Below.grown (w := w3) (Below.refl _ _) hgrow4 (Nat.le_refl _) (fun q hq => by simp [Value.ownBlock] at hq); have B4s := B4.size) | (at_builtin; refine wpList_append_line _ rfl _ _ 39 rfl w3.heap.size 43 i0 _ 2 4 Try.underlying39 HI.1.out HI.2.1.out HI.2.2.1.out HI.2.2.2.out rfl (by decide) (v4) _ (0 + n) (m) ([] ++ prs a) (prs b) rfl rfl (by rcases hown4.2 with h1 | ⟨g, off, cp, e, hg, r⟩; exact ⟨hown4.1, Or.inl h1⟩; exact ⟨hown4.1, Or.inr ⟨g, off, cp, e, by rcases hat4 with h | h; (rw [e] at h; simp [Value.ownBlock] at h); (rw [e] at h; simp [Value.ownBlock] at h; omega), r⟩⟩) ((HB.out.keep B4).src' (prs_one _)) (by unfold maxLen; omega) (by omega) (by first | (have := B4'.size; omega) | (simp; omega)) _ rfl ?_; intro v5 w5 hown5 hgrow5 hat5; have B5' : RowKit.Below w3.heap.size w3 w5 := RowKit.Below.grown (w := w4) B4' hgrow5 B4'.size (fun q hq => by rcases hat4 with h | h; (rw [hq] at h; simp [Value.ownBlock] at h); (rw [hq] at h; simp only [Option.some.injEq] at h; omega)); have B5 : RowKit.Below w.heap.size w w5 := B3.trans (B5'.mono B3s); have B5s := B5.size; have HO5 := Lib.hid hown5; clear hown5 hgrow5 hat5 hown4 hgrow4 hat4))
  have hX : Has w5 2 v5 (n + m) (prs (a ++ b)) := by
    have h := Has.of_line HO5.out
    rw [List.nil_append, ← prs_join, Nat.zero_add] at h
    exact h
  refine (K3.out _ B5 _ hX).mono ?_; rintro e w6 ⟨v6, rfl, hL6, hb6⟩
  have B6 : RowKit.Below w.heap.size w w6 := B5.trans (hb6.mono B5s)
  have B6s := B6.size
  have L2x := Lib.hid ((L2'.out.keep B5').keep hb6)
  have L3x := Lib.hid ((L3.out.keep B5').keep hb6)
  have L2lt : ∀ q, v2.ownBlock = some q → q < w5.heap.size := fun q hq => by have := (L2'.out.lt hq).2; have := B5'.size; omega
  have L2LT := Lib.hid L2lt
  have L6 := Lib.hid hL6
  clear hL6 hb6 hX L2lt
  go_wp2_with (at_builtin; refine wpList_append_guard _ (by rfl) _ _ 48 rfl w.heap.size 59 j0 _ 7 40 Try.underlying48 HJ.1.out HJ.2.1.out HJ.2.2.1.out HJ.2.2.2.out rfl (by decide) v2 _ A.length B.length (ents A) (ents B) rfl rfl L2x.out ((Has.of_line L3x.out).src' (ents_one _)) (by unfold maxLen; omega) (by omega) (by first | omega | (simp; omega)) _ rfl ?_; intro v7 w7 hown7 hgrow7 hat7)
  have hX7 : Has w7 7 v7 (A ++ B).length (ents (A ++ B)) := by
    have h := Has.of_line hown7
    rw [← ents_app] at h
    rw [List.length_append]
    exact h
  have hX6 : Has w7 7 v6 (A ++ B).length (ents (A ++ B)) := Has.of_line (L6.out.grown hgrow7 (fun q hq e => by
    have h1 := (L6.out.lt hq).1
    have h2 := L2LT.out q e
    omega))
  have B7 : RowKit.Below w.heap.size w w7 := RowKit.Below.grown (w := w6) B6 hgrow7 B6s (fun q hq => (L2x.out.lt hq).1)
  have B7s := B7.size
  have X6 := Lib.hid hX6
  have X7 := Lib.hid hX7
  clear hown7 hgrow7 hat7 hX6 hX7
  refine (KS.out _ _ _ X6.out X7.out).mono ?_; rintro e w9 ⟨rfl, hb9⟩
  go_wp2_with fail
  refine ret_any ⟨_, by simp [results, Try.results17, go_sem, *]; rfl, ?_⟩ rfl
  exact gives_of rfl (below_step hb9 B7 B7s)
end Go.Proofs.Ytoefekojjagjdaa
