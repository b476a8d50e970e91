/- For every input the law FnProgValid returns true, and its arguments read afterwards as they read before: the statement's frame round the contract. -/
import Derived.Test.YtnhdachenckceaaLProgValid
import Derived.Test.YtnhdachenckceaaFrame
namespace Go.Proofs.Ytnhdachenckceaa.fnProgValid
open Go.ChangeShapes Go.WideShapes Go.ChangeAt Go.RowKit Go.Kt
set_option linter.unusedVariables false


set_option maxRecDepth 100000 in
theorem lifted (os : Os) (started : os.Started) (H : Type) (enc : TypeId × Value → H) :
    ReturnsInHanded {} Try.checked os 5 .any (Rows.fnProgValidSpec.pre6 enc Try.prog Try.f5 Rows.fnProgValidRow.domain false) (Rows.fnProgValidSpec.post enc Try.prog Try.f5 false true false false) := by
  refine returnsInHanded_of_change (C := Try.checked) Try.ownK started (by kernel_rfl) Try.func5
    (ChangeSpec.witness6 (enc := enc) (C := Try.checked) false ⟨#[], #[.slice none 0 0], []⟩ 8 (by kernel_rfl) (by kernel_rfl) (by kernel_rfl) (by kernel_rfl)) ?_
  intro W base args ds gs before hval0 hW hcnd _
  have hval : ∀ (j : Nat) t v, Try.f5.params[j]? = some t → args[j]? = some v → Value.okWide Try.prog W .any base t v := hval0
  have hW' := hW
  obtain ⟨p, q, hA0, hV, rfl, hfz, hnd⟩ := hW
  have hA : DataW.TrodAll enc Try.prog W 0 (fun _ => true) true Try.f5.params.toList args.toList ds p := hA0
  rw [Try.params5] at hA hval
  obtain ⟨v0, vs0, d0, ds0, p0, q0, hargs, rfl, rfl, h0, r0⟩ := trodAll_cons hA
  obtain ⟨rfl, rfl, rfl⟩ := trodAll_nil r0
  obtain rfl : args = #[v0] := by cases args; simp_all
  obtain ⟨rfl, rfl⟩ := trodVars_none hV
  obtain ⟨a0, len0, cap0, rfl⟩ := okWide_slice Try.underlying33 (hval 0 33 v0 rfl rfl)
  have k0 := h0
  have lt0 : ∀ x ∈ p0, x.block < W.heap.size := by obtain ⟨m, hm⟩ := k0; exact DataW.trod_lt m _ _ _ hm
  obtain ⟨l0, rfl, w0, m0, mc0⟩ : ∃ l, len0 = l.length ∧ BytesAt W a0 l ∧ len0 ≤ 9223372036854775807 ∧ len0 ≤ cap0 := by
    obtain ⟨fuel, hf⟩ := h0
    rcases open_ints Try.underlying33 Try.underlying5 (by kernel_rfl) hf with ⟨hcs, _⟩ | ⟨x, l, c, zs, hcs, _, hl, hm, hz, _, hcell, hwz⟩
    · simp [Value.cells] at hcs
      obtain ⟨rfl, rfl, rfl⟩ := hcs
      exact ⟨[], rfl, bytesAt_none _, by omega, by omega⟩
    · simp [Value.cells] at hcs
      obtain ⟨rfl, rfl, rfl⟩ := hcs
      obtain ⟨l', e1, e2, e3⟩ := bytesAt_of_cells (by simpa using hz) hl hm hcell hwz
      exact ⟨l', e1, e2, e3, hl⟩
  clear hA0 hval0
  refine (fnProgValid_c a0 cap0 l0 W w0 m0 mc0).mono fun e W' ⟨he, bel⟩ => ?_
  subst he
  exact ⟨_, rfl, _, _, _, [], _, [], hW', trodAll_mk1 (shut_bool Try.underlying4 _), (trodAll_cons_mk (Below.trod Try.laidOutB (by kernel_rfl) (of_decide_eq_true (by kernel_rfl)) k0 bel lt0) trodAll_mk0), rfl, bel.frame _, fun h => by cases h⟩
theorem k1 : Rows.fnProgValidRow.wf (OpenSpec.ofChange Rows.fnProgValidSpec) = true := by kernel_rfl
theorem k4 : Try.f5.params.all (Try.prog.readableRec ·) = true := by kernel_rfl
theorem k5 : namedTie Try.prog Rows.fnProgValidRow.named Rows.fnProgValidSpec.vars = true := by kernel_rfl
theorem k6 : (Rows.fnProgValidRow.stops == []) = true := by kernel_rfl
theorem k8 : (Rows.fnProgValidRow.knobs == []) = true := by kernel_rfl
theorem k10 : (Rows.fnProgValidRow.inPlace == Try.prog.inPlace 5) = true := by kernel_rfl
theorem k11 : (Rows.fnProgValidRow.unfollowed == Try.prog.unfollowed 5) = true := by kernel_rfl
theorem k12 : (Rows.fnProgValidRow.recurses == Try.prog.recurses 5) = true := by kernel_rfl
theorem k13 : (Rows.fnProgValidRow.named == Try.prog.varsNamed 5) = true := by kernel_rfl
theorem k14 : (Rows.fnProgValidRow.maps == (Try.f5.params.toList ++ Rows.fnProgValidSpec.plain.varTypes Try.prog).any (Try.prog.mapsRec ·)) = true := by kernel_rfl
theorem k15 : (Rows.fnProgValidRow.ifaces == (Try.f5.params.toList ++ Rows.fnProgValidSpec.plain.varTypes Try.prog).any (Try.prog.ifacesRec ·)) = true := by kernel_rfl
theorem k16 : (Rows.fnProgValidRow.mapsOut == Try.prog.mapsAmong Try.f5.resultTypes.toList) = true := by kernel_rfl
theorem k17 : (Rows.fnProgValidRow.loops == (Try.f5.params.toList ++ Rows.fnProgValidSpec.plain.varTypes Try.prog).any (Try.prog.loopsFrom ·)) = true := by kernel_rfl
theorem k18 : (Rows.fnProgValidRow.wideKeys == (Try.f5.params.toList ++ Rows.fnProgValidSpec.plain.varTypes Try.prog ++ Try.f5.resultTypes.toList).any (Try.prog.wideKeysFrom ·)) = true := by kernel_rfl
theorem k19 : Rows.fnProgValidSpec.vars.all (Try.prog.varReadable ·) = true := by kernel_rfl
theorem k20 : Try.f5.resultTypes.all (fun t => Try.prog.readableRec t && decide (t < Try.prog.types.size)) = true := by kernel_rfl
theorem k21 : (Rows.fnProgValidRow.ifacesOut == Try.f5.resultTypes.toList.any (Try.prog.ifacesRec ·)) = true := by kernel_rfl
theorem k22 : (Rows.fnProgValidRow.loopsOut == Try.f5.resultTypes.toList.any (Try.prog.loopsFrom ·)) = true := by kernel_rfl
theorem k23 : (Rows.fnProgValidRow.plainKeys == Try.prog.plainKeys) = true := by kernel_rfl
theorem k24 : Rows.fnProgValidRow.shortTexts.isNone = true := by kernel_rfl
theorem k29 : (Rows.fnProgValidRow.kinds == (if Rows.fnProgValidRow.domain.isEmpty then [] else Try.f5.params.toList.map fun t => match Try.prog.underlying t with | some (.int k) => some k | _ => none)) = true := by kernel_rfl
theorem k30 : (Rows.fnProgValidRow.pinned == Rows.fnProgValidRow.pinnedBy) = true := by kernel_rfl
theorem k31 : (Rows.fnProgValidRow.veiled == (Try.f5.params.toList ++ Rows.fnProgValidSpec.plain.varTypes Try.prog ++ Try.f5.resultTypes.toList).any (Try.prog.veiledRec ·)) = true := by kernel_rfl
theorem k32 : Rows.fnProgValidRow.veiledFits Try.prog Try.f5.params.toList (Try.f5.params.toList ++ Rows.fnProgValidSpec.plain.varTypes Try.prog ++ Try.f5.resultTypes.toList) = true := by kernel_rfl
theorem closed : joinedFacts Try.pinned.checked.prog 5 Try.f5 Rows.fnProgValidSpec Rows.fnProgValidRow = true := (andT (andT (andT (andT (andT (andT (andT (andT (andT (andT (andT (andT (andT (andT (andT (andT (andT (andT (andT (andT (andT (andT (andT (andT (andT (andT (andT (andT (andT (andT (andT k1 Try.laidOutB) Try.mapsRowed) k4) k5) k6) Try.noStops) k8) Try.noStopKnobs) k10) k11) k12) k13) k14) k15) k16) k17) k18) k19) k20) k21) k22) k23) k24) Try.stopsHeard) Try.mayEnter) Try.lifted) Try.made) k29) k30) k31) k32)

theorem named : Try.pinned.checked.prog.funcNamed Rows.fnProgValidRow.func = some 5 := by kernel_rfl
theorem inst : Func.isInstance Try.pinned.checked.prog Try.f5 Rows.fnProgValidRow.origin Rows.fnProgValidRow.targs := of_decide_eq_true (by kernel_rfl)
theorem wrap : Func.isWrapper Try.pinned.checked.prog Try.f5 Rows.fnProgValidRow.wrapper Rows.fnProgValidRow.mainSum := by unfold Func.isWrapper; first | (rw [if_pos (by decide +kernel)]; kernel_rfl) | (rw [if_neg (by decide +kernel)]; exact ⟨rfl, rfl⟩)
theorem over : Rows.fnProgValidRow.holds Try.pinned (OpenSpec.ofChange Rows.fnProgValidSpec) :=
  OpenClaim.holds_of_wide 5 Try.f5 rfl rfl rfl rfl rfl rfl rfl ⟨rfl, rfl, rfl, rfl, rfl⟩ rfl rfl rfl rfl rfl named Try.func5 closed inst wrap
    (fun os started H enc _ => lifted os started H enc)
end Go.Proofs.Ytnhdachenckceaa.fnProgValid
namespace Go.Proofs.Ytnhdachenckceaa
/-- The given statement. -/
theorem fnProgValid_holds : Rows.FnProgValidSaid := fnProgValid.over
end Go.Proofs.Ytnhdachenckceaa
