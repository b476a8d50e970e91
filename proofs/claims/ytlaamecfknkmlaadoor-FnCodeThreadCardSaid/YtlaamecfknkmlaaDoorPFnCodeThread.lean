/- For every input the law FnCodeThread returns true, and its arguments read afterwards as they read before: the statement's frame round the contract. -/
import Derived.Test.YtlaamecfknkmlaaDoorMh49
import Derived.Test.YtlaamecfknkmlaaDoorMh50
import Derived.Test.YtlaamecfknkmlaaDoorMh51
import Derived.Test.YtlaamecfknkmlaaDoorCards
import Derived.Test.YtlaamecfknkmlaaDoorTie
import Derived.SevenTiedAt
namespace Go.Proofs.YtlaamecfknkmlaaDoor.fnCodeThread
open Go.ChangeShapes Go.WideShapes Go.ChangeAt Go.RowKit Go.Kt
set_option linter.unusedVariables false


set_option maxRecDepth 100000 in
theorem lifted (os : Os) (started : os.Started) (H : Type) (enc : TypeId × Value → H) :
    ReturnsInHanded {} Tryd.checked os 4 .any (fun w args => (Rows.fnCodeThreadSpec.pre enc Tryd.prog Tryd.f4 [] false w args ∧ laidMetH Tryd.prog laidT w) ∧ sizedMet enc Tryd.prog Tryd.f4 (OpenSpec.ofChange Rows.fnCodeThreadSpec) false w args) (Rows.fnCodeThreadSpec.post enc Tryd.prog Tryd.f4 false true false false) := by
  refine returnsInHanded_of_change_and (C := Tryd.checked) (X := fun w _ => laidMetH Tryd.prog laidT w) (fun _ _ _ hh h => h.of_heap hh) Tryd.ownK started (by kernel_rfl) Tryd.func4
    (ChangeSpec.witness_shaped (enc := enc) (C := Tryd.checked) (os := os) (X := fun w _ => laidMetH Tryd.prog laidT w) false (World.doorLaid Tryd.prog 4000 os) #[.slice none 0 0, .slice none 0 0] 8 rfl (World.shaped_of_RefB (by kernel_rfl) (by kernel_rfl)) (by kernel_rfl) (by kernel_rfl) (by kernel_rfl) (door_met os _)) ?_
  intro W base args ds gs before hval0 hW _ _ hL _
  have hval : ∀ (j : Nat) t v, Tryd.f4.params[j]? = some t → args[j]? = some v → Value.okWide Tryd.prog W .any base t v := hval0
  have hW' := hW
  obtain ⟨p, q, hA0, hV, rfl, hfz, hnd⟩ := hW
  have hA : DataW.TrodAll enc Tryd.prog W 0 (fun _ => true) true Tryd.f4.params.toList args.toList ds p := hA0
  rw [Tryd.params4] at hA hval
  obtain ⟨v0, vs0, d0, ds0, p0, q0, hargs, rfl, rfl, h0, r0⟩ := trodAll_cons hA
  obtain ⟨v1, vs1, d1, ds1, p1, q1, rfl, rfl, rfl, h1, r1⟩ := trodAll_cons r0
  obtain ⟨rfl, rfl, rfl⟩ := trodAll_nil r1
  obtain rfl : args = #[v0, v1] := by cases args; simp_all
  obtain ⟨rfl, rfl⟩ := trodVars_none hV
  obtain ⟨a0, len0, cap0, rfl⟩ := okWide_slice Tryd.underlying22 (hval 0 22 v0 rfl rfl)
  have k0 := h0
  have lt0 : ∀ x ∈ p0, x.block < W.heap.size := by obtain ⟨m, hm⟩ := k0; exact DataW.trod_lt m _ _ _ hm
  obtain ⟨l0, rfl, w0, m0, mc0⟩ : ∃ l, len0 = l.length ∧ BytesAt W a0 l ∧ len0 ≤ 9223372036854775807 ∧ len0 ≤ cap0 := by
    obtain ⟨fuel, hf⟩ := h0
    rcases open_ints Tryd.underlying22 Tryd.underlying5 (by kernel_rfl) hf with ⟨hcs, _⟩ | ⟨x, l, c, zs, hcs, _, hl, hm, hz, _, hcell, hwz⟩
    · simp [Value.cells] at hcs
      obtain ⟨rfl, rfl, rfl⟩ := hcs
      exact ⟨[], rfl, bytesAt_none _, by omega, by omega⟩
    · simp [Value.cells] at hcs
      obtain ⟨rfl, rfl, rfl⟩ := hcs
      obtain ⟨l', e1, e2, e3⟩ := bytesAt_of_cells (by simpa using hz) hl hm hcell hwz
      exact ⟨l', e1, e2, e3, hl⟩
  obtain ⟨a1, len1, cap1, rfl⟩ := okWide_slice Tryd.underlying22 (hval 1 22 v1 rfl rfl)
  have k1 := h1
  have lt1 : ∀ x ∈ p1, x.block < W.heap.size := by obtain ⟨m, hm⟩ := k1; exact DataW.trod_lt m _ _ _ hm
  obtain ⟨l1, rfl, w1, m1, mc1⟩ : ∃ l, len1 = l.length ∧ BytesAt W a1 l ∧ len1 ≤ 9223372036854775807 ∧ len1 ≤ cap1 := by
    obtain ⟨fuel, hf⟩ := h1
    rcases open_ints Tryd.underlying22 Tryd.underlying5 (by kernel_rfl) hf with ⟨hcs, _⟩ | ⟨x, l, c, zs, hcs, _, hl, hm, hz, _, hcell, hwz⟩
    · simp [Value.cells] at hcs
      obtain ⟨rfl, rfl, rfl⟩ := hcs
      exact ⟨[], rfl, bytesAt_none _, by omega, by omega⟩
    · simp [Value.cells] at hcs
      obtain ⟨rfl, rfl, rfl⟩ := hcs
      obtain ⟨l', e1, e2, e3⟩ := bytesAt_of_cells (by simpa using hz) hl hm hcell hwz
      exact ⟨l', e1, e2, e3, hl⟩
  clear hA0 hval0
  refine (fnCodeThread_c a0 cap0 l0 a1 cap1 l1 W w0 m0 mc0 w1 m1 mc1 (tab_of_laid hL)).mono fun e W' ⟨he, bel⟩ => ?_
  subst he
  exact ⟨_, rfl, _, _, _, [], _, [], hW', trodAll_mk1 (shut_bool Tryd.underlying4 _), (trodAll_cons_mk (Below.trod Tryd.laidOutB (by kernel_rfl) (of_decide_eq_true (by kernel_rfl)) k0 bel lt0) (trodAll_cons_mk (Below.trod Tryd.laidOutB (by kernel_rfl) (of_decide_eq_true (by kernel_rfl)) k1 bel lt1) trodAll_mk0)), rfl, bel.frame _, fun h => by cases h⟩
theorem k1 : Rows.fnCodeThreadRow.wf (OpenSpec.ofChange Rows.fnCodeThreadSpec) = true := by kernel_rfl
theorem k4 : Tryd.f4.params.all (Tryd.prog.readableRec ·) = true := by kernel_rfl
theorem k5 : namedTie Tryd.prog Rows.fnCodeThreadRow.named Rows.fnCodeThreadSpec.vars = true := by kernel_rfl
theorem k6 : (Rows.fnCodeThreadRow.stops == []) = true := by kernel_rfl
theorem k8 : (Rows.fnCodeThreadRow.knobs == []) = true := by kernel_rfl
theorem k10 : (Rows.fnCodeThreadRow.inPlace == Tryd.prog.inPlace 4) = true := by kernel_rfl
theorem k11 : (Rows.fnCodeThreadRow.unfollowed == Tryd.prog.unfollowed 4) = true := by kernel_rfl
theorem k12 : (Rows.fnCodeThreadRow.recurses == Tryd.prog.recurses 4) = true := by kernel_rfl
theorem k13 : (Rows.fnCodeThreadRow.named == Tryd.prog.varsNamed 4) = true := by kernel_rfl
theorem k14 : (Rows.fnCodeThreadRow.maps == (Tryd.f4.params.toList ++ Rows.fnCodeThreadSpec.plain.varTypes Tryd.prog).any (Tryd.prog.mapsRec ·)) = true := by kernel_rfl
theorem k15 : (Rows.fnCodeThreadRow.ifaces == (Tryd.f4.params.toList ++ Rows.fnCodeThreadSpec.plain.varTypes Tryd.prog).any (Tryd.prog.ifacesRec ·)) = true := by kernel_rfl
theorem k16 : (Rows.fnCodeThreadRow.mapsOut == Tryd.prog.mapsAmong Tryd.f4.resultTypes.toList) = true := by kernel_rfl
theorem k17 : (Rows.fnCodeThreadRow.loops == (Tryd.f4.params.toList ++ Rows.fnCodeThreadSpec.plain.varTypes Tryd.prog).any (Tryd.prog.loopsFrom ·)) = true := by kernel_rfl
theorem k18 : (Rows.fnCodeThreadRow.wideKeys == (Tryd.f4.params.toList ++ Rows.fnCodeThreadSpec.plain.varTypes Tryd.prog ++ Tryd.f4.resultTypes.toList).any (Tryd.prog.wideKeysFrom ·)) = true := by kernel_rfl
theorem k19 : Rows.fnCodeThreadSpec.vars.all (Tryd.prog.varReadable ·) = true := by kernel_rfl
theorem k20 : Tryd.f4.resultTypes.all (fun t => Tryd.prog.readableRec t && decide (t < Tryd.prog.types.size)) = true := by kernel_rfl
theorem k21 : (Rows.fnCodeThreadRow.ifacesOut == Tryd.f4.resultTypes.toList.any (Tryd.prog.ifacesRec ·)) = true := by kernel_rfl
theorem k22 : (Rows.fnCodeThreadRow.loopsOut == Tryd.f4.resultTypes.toList.any (Tryd.prog.loopsFrom ·)) = true := by kernel_rfl
theorem k23 : (Rows.fnCodeThreadRow.plainKeys == Tryd.prog.plainKeys) = true := by kernel_rfl
theorem k24 : Rows.fnCodeThreadRow.shortTexts.isNone = true := by kernel_rfl
theorem k29 : (Rows.fnCodeThreadRow.kinds == (if Rows.fnCodeThreadRow.domain.isEmpty then [] else Tryd.f4.params.toList.map fun t => match Tryd.prog.underlying t with | some (.int k) => some k | _ => none)) = true := by kernel_rfl
theorem k30 : (Rows.fnCodeThreadRow.pinned == Rows.fnCodeThreadRow.pinnedBy) = true := by kernel_rfl
theorem k31 : (Rows.fnCodeThreadRow.veiled == (Tryd.f4.params.toList ++ Rows.fnCodeThreadSpec.plain.varTypes Tryd.prog ++ Tryd.f4.resultTypes.toList).any (Tryd.prog.veiledRec ·)) = true := by kernel_rfl
theorem k32 : Rows.fnCodeThreadRow.veiledFits Tryd.prog Tryd.f4.params.toList (Tryd.f4.params.toList ++ Rows.fnCodeThreadSpec.plain.varTypes Tryd.prog ++ Tryd.f4.resultTypes.toList) = true := by kernel_rfl
set_option maxRecDepth 100000 in
theorem closed : joinedFacts Tryd.pinned.checked.prog 4 Tryd.f4 Rows.fnCodeThreadSpec Rows.fnCodeThreadRow = true := (andT (andT (andT (andT (andT (andT (andT (andT (andT (andT (andT (andT (andT (andT (andT (andT (andT (andT (andT (andT (andT (andT (andT (andT (andT (andT (andT (andT (andT (andT (andT k1 Tryd.laidOutB) Tryd.mapsRowed) k4) k5) k6) Tryd.noStops) k8) Tryd.noStopKnobs) k10) k11) k12) k13) k14) k15) k16) k17) k18) k19) k20) k21) k22) k23) k24) Tryd.stopsHeard) Tryd.mayEnter) Tryd.lifted) Tryd.made) k29) k30) k31) k32)

theorem named : Tryd.pinned.checked.prog.funcNamed Rows.fnCodeThreadRow.func = some 4 := by kernel_rfl
theorem inst : Func.isInstance Tryd.pinned.checked.prog Tryd.f4 Rows.fnCodeThreadRow.origin Rows.fnCodeThreadRow.targs := of_decide_eq_true (by kernel_rfl)
theorem wrap : Func.isWrapper Tryd.pinned.checked.prog Tryd.f4 Rows.fnCodeThreadRow.wrapper Rows.fnCodeThreadRow.mainSum := by unfold Func.isWrapper; first | (rw [if_pos (by decide +kernel)]; kernel_rfl) | (rw [if_neg (by decide +kernel)]; exact ⟨rfl, rfl⟩)
theorem over : Rows.fnCodeThreadRow.holds Tryd.pinned (OpenSpec.ofChange Rows.fnCodeThreadSpec) :=
  OpenClaim.holds_of_wide 4 Tryd.f4 rfl rfl rfl rfl rfl rfl rfl ⟨rfl, rfl, rfl, rfl, rfl⟩ rfl rfl rfl rfl rfl named Tryd.func4 closed inst wrap
    (fun os started H enc _ => lifted os started H enc)
end Go.Proofs.YtlaamecfknkmlaaDoor.fnCodeThread
namespace Go.Proofs.YtlaamecfknkmlaaDoor
/-- The row's statement. -/
theorem fnCodeThread_row : Rows.FnCodeThreadSaid := fnCodeThread.over
set_option maxRecDepth 100000 in
/-- The given statement: the tied card. -/
theorem fnCodeThread_holds : Rows.FnCodeThreadCardSaid :=
  Claim7.holds_tied_plain_at .later [] [.data, .data] true (true, Rows.fnCodeThreadCard.stood.harness.2) true
    fnCodeThread_row (fun _ h => by cases h) (by kernel_rfl) (fun _ h => by cases h) fnCodeThread_row_tie rfl ⟨rfl, rfl⟩ (by kernel_rfl) rfl
    (fun f fn hf hfn => by
      obtain rfl : f = 4 := Option.some.inj ((show Tryd.prog.funcNamed "loop.example/kleenetests/laws.FnCodeThread" = some 4 by kernel_rfl).symm.trans hf) |>.symm
      obtain rfl : fn = Tryd.f4 := (Option.some.inj (Tryd.func4.symm.trans hfn)).symm
      exact ⟨by kernel_rfl, fun j t ht => by
        rw [Tryd.params4] at ht
        have hm : t ∈ [22, 22] := by simpa using Array.mem_of_getElem? ht
        have hall : ([22, 22].all fun u => !Tryd.prog.wantsStandIn u) = true := by kernel_rfl
        exact (show Tryd.prog.wantsStandIn t = false by simpa using List.all_eq_true.1 hall t hm)⟩)
    (by kernel_rfl)
end Go.Proofs.YtlaamecfknkmlaaDoor
