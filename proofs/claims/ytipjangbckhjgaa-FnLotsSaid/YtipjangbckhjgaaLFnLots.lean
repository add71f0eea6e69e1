/- FnLots: the law in plain words. -/
import Derived.Test.YtipjangbckhjgaaPfl
namespace Go.OAI
set_option linter.unusedVariables false
noncomputable section

theorem tail4 {x1 : List Int} (K : CodeOk x1) : ((spec_DrawPutLot x1).bind fun y105 =>
                          (impl_PutLot (y105.1.1, (y105.1.2.1, (y105.1.2.2, ()))) y105.2).bind fun y106 =>
                          (spec_PutLot (y105.1.1, (y105.1.2.1, (y105.1.2.2, ()))) y105.2).bind fun y107 =>
                          (spec_DrawPileGrade x1).bind fun y108 =>
                          (impl_PileGrade (y108.1, (y108.2.1, (y108.2.2, ())))).bind fun y109 =>
                          (spec_PileGrade (y108.1, (y108.2.1, (y108.2.2, ())))).bind fun y110 =>
                          (impl_OldestLot (y108.1, (y108.2.1, (y108.2.2, ())))).bind fun y111 =>
                          (spec_OldestLot (y108.1, (y108.2.1, (y108.2.2, ())))).bind fun y112 =>
                          cond (y106.2 == y107.2)
                          ((laws_pSamePile (y106.1.1, (y106.1.2.1, (y106.1.2.2, ()))) (y107.1.1, (y107.1.2.1, (y107.1.2.2, ())))).bind fun y113 =>
                            cond (y113)
                            (cond (y109.2.2 == y110.2.2)
                              (cond (y109.1 == y110.1)
                                (cond (y109.2.1 == y110.2.1)
                                  (cond (y111.2 == y112.2)
                                    (cond (y111.1.1 == y112.1.1 && (y111.1.2.1 == y112.1.2.1 && true))
                                      (some (y111.2 == y109.2.2))
                                      (some false))
                                    (some false))
                                  (some false))
                                (some false))
                              (some false))
                            (some false))
                          (some false)) = some true := by
  obtain ⟨p, l, e1, h1⟩ := drawPut_ok K
  obtain ⟨v, a1, a2, a3⟩ := PutLot_both (p.1, p.2.1, p.2.2, ()) h1 l
  obtain ⟨z, e2, h2⟩ := drawGrade_ok K
  obtain ⟨u, b1, b2, b3⟩ := PileGrade_both (z.1, z.2.1, z.2.2, ()) h2
  obtain ⟨w, c1, c2, c3⟩ := OldestLot_both (z.1, z.2.1, z.2.2, ()) h2
  have hs := samePile_refl (v.1.1, v.1.2.1, v.1.2.2, ()) (by show v.1.2.2.length ≤ _; omega)
  have hw : w.2 = u.2.2 := by rw [b3, c3]
  rw [e1]; simp only [Option.bind_some]
  rw [a1, a2]; simp only [Option.bind_some]
  rw [e2]; simp only [Option.bind_some]
  rw [b1, b2]; simp only [Option.bind_some]
  rw [c1, c2]; simp only [Option.bind_some]
  rw [hs, hw]
  simp
theorem tail3 {x1 : List Int} (K : CodeOk x1) : ((spec_DrawJoinPiles x1).bind fun y89 =>
                    (impl_JoinPiles (y89.1.1, (y89.1.2.1, (y89.1.2.2, ()))) (y89.2.1, (y89.2.2.1, (y89.2.2.2, ())))).bind fun y90 =>
                    (spec_JoinPiles (y89.1.1, (y89.1.2.1, (y89.1.2.2, ()))) (y89.2.1, (y89.2.2.1, (y89.2.2.2, ())))).bind fun y91 =>
                    cond (!(y90.2 == y91.2))
                    (some false)
                    ((laws_pSamePile (y90.1.1, (y90.1.2.1, (y90.1.2.2, ()))) (y91.1.1, (y91.1.2.1, (y91.1.2.2, ())))).bind fun y92 =>
                      cond (!y92)
                      (some false)
                      (cond (y90.2)
                        ((impl_PileSums (y89.1.1, (y89.1.2.1, (y89.1.2.2, ())))).bind fun y93 =>
                          (impl_PileSums (y89.2.1, (y89.2.2.1, (y89.2.2.2, ())))).bind fun y94 =>
                          (impl_PileSums (y90.1.1, (y90.1.2.1, (y90.1.2.2, ())))).bind fun y95 =>
                          cond (!y93.2.2)
                          (some false)
                          (cond (!y94.2.2)
                            (some false)
                            (cond (!y95.2.2)
                              (some false)
                              (cond (y95.1 != (IntKind.i64.wrap (y93.1 + y94.1)))
                                (some false)
                                (cond (y95.2.1 != (IntKind.i64.wrap (y93.2.1 + y94.2.1)))
                                  (some false)
                                  ((spec_DrawPutLot x1).bind fun y96 =>
                                    (impl_PutLot (y96.1.1, (y96.1.2.1, (y96.1.2.2, ()))) y96.2).bind fun y97 =>
                                    (spec_PutLot (y96.1.1, (y96.1.2.1, (y96.1.2.2, ()))) y96.2).bind fun y98 =>
                                    (spec_DrawPileGrade x1).bind fun y99 =>
                                    (impl_PileGrade (y99.1, (y99.2.1, (y99.2.2, ())))).bind fun y100 =>
                                    (spec_PileGrade (y99.1, (y99.2.1, (y99.2.2, ())))).bind fun y101 =>
                                    (impl_OldestLot (y99.1, (y99.2.1, (y99.2.2, ())))).bind fun y102 =>
                                    (spec_OldestLot (y99.1, (y99.2.1, (y99.2.2, ())))).bind fun y103 =>
                                    cond (y97.2 == y98.2)
                                    ((laws_pSamePile (y97.1.1, (y97.1.2.1, (y97.1.2.2, ()))) (y98.1.1, (y98.1.2.1, (y98.1.2.2, ())))).bind fun y104 =>
                                      cond (y104)
                                      (cond (y100.2.2 == y101.2.2)
                                        (cond (y100.1 == y101.1)
                                          (cond (y100.2.1 == y101.2.1)
                                            (cond (y102.2 == y103.2)
                                              (cond (y102.1.1 == y103.1.1 && (y102.1.2.1 == y103.1.2.1 && true))
                                                (some (y102.2 == y100.2.2))
                                                (some false))
                                              (some false))
                                            (some false))
                                          (some false))
                                        (some false))
                                      (some false))
                                    (some false)))))))
                        ((spec_DrawPutLot x1).bind fun y105 =>
                          (impl_PutLot (y105.1.1, (y105.1.2.1, (y105.1.2.2, ()))) y105.2).bind fun y106 =>
                          (spec_PutLot (y105.1.1, (y105.1.2.1, (y105.1.2.2, ()))) y105.2).bind fun y107 =>
                          (spec_DrawPileGrade x1).bind fun y108 =>
                          (impl_PileGrade (y108.1, (y108.2.1, (y108.2.2, ())))).bind fun y109 =>
                          (spec_PileGrade (y108.1, (y108.2.1, (y108.2.2, ())))).bind fun y110 =>
                          (impl_OldestLot (y108.1, (y108.2.1, (y108.2.2, ())))).bind fun y111 =>
                          (spec_OldestLot (y108.1, (y108.2.1, (y108.2.2, ())))).bind fun y112 =>
                          cond (y106.2 == y107.2)
                          ((laws_pSamePile (y106.1.1, (y106.1.2.1, (y106.1.2.2, ()))) (y107.1.1, (y107.1.2.1, (y107.1.2.2, ())))).bind fun y113 =>
                            cond (y113)
                            (cond (y109.2.2 == y110.2.2)
                              (cond (y109.1 == y110.1)
                                (cond (y109.2.1 == y110.2.1)
                                  (cond (y111.2 == y112.2)
                                    (cond (y111.1.1 == y112.1.1 && (y111.1.2.1 == y112.1.2.1 && true))
                                      (some (y111.2 == y109.2.2))
                                      (some false))
                                    (some false))
                                  (some false))
                                (some false))
                              (some false))
                            (some false))
                          (some false))))) = some true := by
  obtain ⟨q, r, e1, h1, h2⟩ := drawJoin_ok K
  obtain ⟨v, a1, a2, a3, a4⟩ := JoinPiles_both (q.1, q.2.1, q.2.2, ()) (r.1, r.2.1, r.2.2, ()) h1 h2
  have hs := samePile_refl (v.1.1, v.1.2.1, v.1.2.2, ()) (by show v.1.2.2.length ≤ _; omega)
  rw [e1]; simp only [Option.bind_some]
  rw [a1, a2]; simp only [Option.bind_some]
  rw [hs]
  simp only [beq_self_eq_true, Bool.not_true, cond_false, Option.bind_some, impl_PileSums_ok]
  cases hv : v.2 with
  | false =>
    simp only [cond_false]
    exact tail4 K
  | true =>
    obtain ⟨g1, g2, g3, g4, g5⟩ := a4 hv
    have f1 := sums_bound _ (pileB_spec g1).1
    have f2 := sums_bound _ (pileB_spec g2).1
    have l1 := (pileB_spec g1).2.2.2.1
    have l2 := (pileB_spec g2).2.2.2.1
    dsimp only at g4 g5 f1 f2 l1 l2
    simp only [cond_true, g1, g2, g3, if_true, Bool.not_true, cond_false]
    rw [wr (n := tS q.2.2 + tS r.2.2) (by omega) (by omega), wr (n := mS q.2.2 + mS r.2.2) (by omega) (by omega), ← g4, ← g5]
    simp only [bne_self_eq_false, cond_false]
    exact tail4 K
theorem tail2 {x1 : List Int} (K : CodeOk x1) : ((spec_DrawSplitLot x1).bind fun y61 =>
            (impl_SplitLot y61.1 y61.2).bind fun y62 =>
            (spec_SplitLot y61.1 y61.2).bind fun y63 =>
            cond (!(y62.2.2 == y63.2.2))
            (some false)
            (cond (!(y62.1.1 == y63.1.1 && (y62.1.2.1 == y63.1.2.1 && true)))
              (some false)
              (cond (!(y62.2.1.1 == y63.2.1.1 && (y62.2.1.2.1 == y63.2.1.2.1 && true)))
                (some false)
                (cond (y62.2.2)
                  (cond (y63.1.1 != y61.2)
                    (some false)
                    (cond ((IntKind.i64.wrap (y63.1.1 + y63.2.1.1)) != y61.1.1)
                      (some false)
                      (cond ((IntKind.i64.wrap (y63.1.2.1 + y63.2.1.2.1)) != y61.1.2.1)
                        (some false)
                        ((spec_DrawJoinPiles x1).bind fun y64 =>
                          (impl_JoinPiles (y64.1.1, (y64.1.2.1, (y64.1.2.2, ()))) (y64.2.1, (y64.2.2.1, (y64.2.2.2, ())))).bind fun y65 =>
                          (spec_JoinPiles (y64.1.1, (y64.1.2.1, (y64.1.2.2, ()))) (y64.2.1, (y64.2.2.1, (y64.2.2.2, ())))).bind fun y66 =>
                          cond (!(y65.2 == y66.2))
                          (some false)
                          ((laws_pSamePile (y65.1.1, (y65.1.2.1, (y65.1.2.2, ()))) (y66.1.1, (y66.1.2.1, (y66.1.2.2, ())))).bind fun y67 =>
                            cond (!y67)
                            (some false)
                            (cond (y65.2)
                              ((impl_PileSums (y64.1.1, (y64.1.2.1, (y64.1.2.2, ())))).bind fun y68 =>
                                (impl_PileSums (y64.2.1, (y64.2.2.1, (y64.2.2.2, ())))).bind fun y69 =>
                                (impl_PileSums (y65.1.1, (y65.1.2.1, (y65.1.2.2, ())))).bind fun y70 =>
                                cond (!y68.2.2)
                                (some false)
                                (cond (!y69.2.2)
                                  (some false)
                                  (cond (!y70.2.2)
                                    (some false)
                                    (cond (y70.1 != (IntKind.i64.wrap (y68.1 + y69.1)))
                                      (some false)
                                      (cond (y70.2.1 != (IntKind.i64.wrap (y68.2.1 + y69.2.1)))
                                        (some false)
                                        ((spec_DrawPutLot x1).bind fun y71 =>
                                          (impl_PutLot (y71.1.1, (y71.1.2.1, (y71.1.2.2, ()))) y71.2).bind fun y72 =>
                                          (spec_PutLot (y71.1.1, (y71.1.2.1, (y71.1.2.2, ()))) y71.2).bind fun y73 =>
                                          (spec_DrawPileGrade x1).bind fun y74 =>
                                          (impl_PileGrade (y74.1, (y74.2.1, (y74.2.2, ())))).bind fun y75 =>
                                          (spec_PileGrade (y74.1, (y74.2.1, (y74.2.2, ())))).bind fun y76 =>
                                          (impl_OldestLot (y74.1, (y74.2.1, (y74.2.2, ())))).bind fun y77 =>
                                          (spec_OldestLot (y74.1, (y74.2.1, (y74.2.2, ())))).bind fun y78 =>
                                          cond (y72.2 == y73.2)
                                          ((laws_pSamePile (y72.1.1, (y72.1.2.1, (y72.1.2.2, ()))) (y73.1.1, (y73.1.2.1, (y73.1.2.2, ())))).bind fun y79 =>
                                            cond (y79)
                                            (cond (y75.2.2 == y76.2.2)
                                              (cond (y75.1 == y76.1)
                                                (cond (y75.2.1 == y76.2.1)
                                                  (cond (y77.2 == y78.2)
                                                    (cond (y77.1.1 == y78.1.1 && (y77.1.2.1 == y78.1.2.1 && true))
                                                      (some (y77.2 == y75.2.2))
                                                      (some false))
                                                    (some false))
                                                  (some false))
                                                (some false))
                                              (some false))
                                            (some false))
                                          (some false)))))))
                              ((spec_DrawPutLot x1).bind fun y80 =>
                                (impl_PutLot (y80.1.1, (y80.1.2.1, (y80.1.2.2, ()))) y80.2).bind fun y81 =>
                                (spec_PutLot (y80.1.1, (y80.1.2.1, (y80.1.2.2, ()))) y80.2).bind fun y82 =>
                                (spec_DrawPileGrade x1).bind fun y83 =>
                                (impl_PileGrade (y83.1, (y83.2.1, (y83.2.2, ())))).bind fun y84 =>
                                (spec_PileGrade (y83.1, (y83.2.1, (y83.2.2, ())))).bind fun y85 =>
                                (impl_OldestLot (y83.1, (y83.2.1, (y83.2.2, ())))).bind fun y86 =>
                                (spec_OldestLot (y83.1, (y83.2.1, (y83.2.2, ())))).bind fun y87 =>
                                cond (y81.2 == y82.2)
                                ((laws_pSamePile (y81.1.1, (y81.1.2.1, (y81.1.2.2, ()))) (y82.1.1, (y82.1.2.1, (y82.1.2.2, ())))).bind fun y88 =>
                                  cond (y88)
                                  (cond (y84.2.2 == y85.2.2)
                                    (cond (y84.1 == y85.1)
                                      (cond (y84.2.1 == y85.2.1)
                                        (cond (y86.2 == y87.2)
                                          (cond (y86.1.1 == y87.1.1 && (y86.1.2.1 == y87.1.2.1 && true))
                                            (some (y86.2 == y84.2.2))
                                            (some false))
                                          (some false))
                                        (some false))
                                      (some false))
                                    (some false))
                                  (some false))
                                (some false))))))))
                  ((spec_DrawJoinPiles x1).bind fun y89 =>
                    (impl_JoinPiles (y89.1.1, (y89.1.2.1, (y89.1.2.2, ()))) (y89.2.1, (y89.2.2.1, (y89.2.2.2, ())))).bind fun y90 =>
                    (spec_JoinPiles (y89.1.1, (y89.1.2.1, (y89.1.2.2, ()))) (y89.2.1, (y89.2.2.1, (y89.2.2.2, ())))).bind fun y91 =>
                    cond (!(y90.2 == y91.2))
                    (some false)
                    ((laws_pSamePile (y90.1.1, (y90.1.2.1, (y90.1.2.2, ()))) (y91.1.1, (y91.1.2.1, (y91.1.2.2, ())))).bind fun y92 =>
                      cond (!y92)
                      (some false)
                      (cond (y90.2)
                        ((impl_PileSums (y89.1.1, (y89.1.2.1, (y89.1.2.2, ())))).bind fun y93 =>
                          (impl_PileSums (y89.2.1, (y89.2.2.1, (y89.2.2.2, ())))).bind fun y94 =>
                          (impl_PileSums (y90.1.1, (y90.1.2.1, (y90.1.2.2, ())))).bind fun y95 =>
                          cond (!y93.2.2)
                          (some false)
                          (cond (!y94.2.2)
                            (some false)
                            (cond (!y95.2.2)
                              (some false)
                              (cond (y95.1 != (IntKind.i64.wrap (y93.1 + y94.1)))
                                (some false)
                                (cond (y95.2.1 != (IntKind.i64.wrap (y93.2.1 + y94.2.1)))
                                  (some false)
                                  ((spec_DrawPutLot x1).bind fun y96 =>
                                    (impl_PutLot (y96.1.1, (y96.1.2.1, (y96.1.2.2, ()))) y96.2).bind fun y97 =>
                                    (spec_PutLot (y96.1.1, (y96.1.2.1, (y96.1.2.2, ()))) y96.2).bind fun y98 =>
                                    (spec_DrawPileGrade x1).bind fun y99 =>
                                    (impl_PileGrade (y99.1, (y99.2.1, (y99.2.2, ())))).bind fun y100 =>
                                    (spec_PileGrade (y99.1, (y99.2.1, (y99.2.2, ())))).bind fun y101 =>
                                    (impl_OldestLot (y99.1, (y99.2.1, (y99.2.2, ())))).bind fun y102 =>
                                    (spec_OldestLot (y99.1, (y99.2.1, (y99.2.2, ())))).bind fun y103 =>
                                    cond (y97.2 == y98.2)
                                    ((laws_pSamePile (y97.1.1, (y97.1.2.1, (y97.1.2.2, ()))) (y98.1.1, (y98.1.2.1, (y98.1.2.2, ())))).bind fun y104 =>
                                      cond (y104)
                                      (cond (y100.2.2 == y101.2.2)
                                        (cond (y100.1 == y101.1)
                                          (cond (y100.2.1 == y101.2.1)
                                            (cond (y102.2 == y103.2)
                                              (cond (y102.1.1 == y103.1.1 && (y102.1.2.1 == y103.1.2.1 && true))
                                                (some (y102.2 == y100.2.2))
                                                (some false))
                                              (some false))
                                            (some false))
                                          (some false))
                                        (some false))
                                      (some false))
                                    (some false)))))))
                        ((spec_DrawPutLot x1).bind fun y105 =>
                          (impl_PutLot (y105.1.1, (y105.1.2.1, (y105.1.2.2, ()))) y105.2).bind fun y106 =>
                          (spec_PutLot (y105.1.1, (y105.1.2.1, (y105.1.2.2, ()))) y105.2).bind fun y107 =>
                          (spec_DrawPileGrade x1).bind fun y108 =>
                          (impl_PileGrade (y108.1, (y108.2.1, (y108.2.2, ())))).bind fun y109 =>
                          (spec_PileGrade (y108.1, (y108.2.1, (y108.2.2, ())))).bind fun y110 =>
                          (impl_OldestLot (y108.1, (y108.2.1, (y108.2.2, ())))).bind fun y111 =>
                          (spec_OldestLot (y108.1, (y108.2.1, (y108.2.2, ())))).bind fun y112 =>
                          cond (y106.2 == y107.2)
                          ((laws_pSamePile (y106.1.1, (y106.1.2.1, (y106.1.2.2, ()))) (y107.1.1, (y107.1.2.1, (y107.1.2.2, ())))).bind fun y113 =>
                            cond (y113)
                            (cond (y109.2.2 == y110.2.2)
                              (cond (y109.1 == y110.1)
                                (cond (y109.2.1 == y110.2.1)
                                  (cond (y111.2 == y112.2)
                                    (cond (y111.1.1 == y112.1.1 && (y111.1.2.1 == y112.1.2.1 && true))
                                      (some (y111.2 == y109.2.2))
                                      (some false))
                                    (some false))
                                  (some false))
                                (some false))
                              (some false))
                            (some false))
                          (some false))))))))) = some true := by
  obtain ⟨m, n, e1⟩ := drawSplit_ok K
  obtain ⟨v, a1, a2, a3⟩ := SplitLot_both m n
  rw [e1]; simp only [Option.bind_some]
  rw [a1, a2]; simp only [Option.bind_some]
  simp only [beq_self_eq_true, Bool.and_self, Bool.not_true, cond_false]
  cases hv : v.2.2 with
  | false =>
    simp only [cond_false]
    exact tail3 K
  | true =>
    obtain ⟨g1, g2, g3⟩ := a3 hv
    simp only [cond_true, g1, bne_self_eq_false, cond_false]
    rw [g1] at g2
    simp only [g2, g3, bne_self_eq_false, cond_false]
    exact tail3 K
theorem u8_wf {x : Int} (h : (Ty.int .u8).wf x) : 0 ≤ x ∧ x ≤ 255 := by
  have h : (decide ((IntKind.u8).min ≤ x) && decide (x ≤ (IntKind.u8).max)) = true := h
  have e1 : IntKind.u8.min = 0 := by decide
  have e2 : IntKind.u8.max = 255 := by decide
  rw [e1, e2] at h
  simpa using h
theorem FnLots_law (x0 x1 : List Int) (w0 : (Ty.slice (.int .u8)).wf x0) (w1 : (Ty.slice (.int .u8)).wf x1) : laws_FnLots x0 x1 = some true := by
  unfold laws_FnLots laws_FnLotsK laws_big laws_bigK
  by_cases c1 : (x0.length : Int) > 1048576
  · simp [c1]
  rw [wr (n := 1048576 - (x0.length : Int)) (by omega) (by omega)]
  by_cases c2 : (x1.length : Int) > 1048576 - (x0.length : Int)
  · simp [c1, c2]
  have K0 : CodeOk x0 := ⟨fun x hx => u8_wf (w0.2 x hx), by omega⟩
  have K1 : CodeOk x1 := ⟨fun x hx => u8_wf (w1.2 x hx), by omega⟩
  obtain ⟨p, t, e1, h1⟩ := drawTake_ok K0
  obtain ⟨v, a1, a2, a3, a4⟩ := TakeTonnes_both (p.1, p.2.1, p.2.2, ()) h1 t
  have hs := samePile_refl (v.1.1, v.1.2.1, v.1.2.2, ()) (by show v.1.2.2.length ≤ _; omega)
  rw [tail2 K1]
  simp only [c1, c2, decide_false, cond_false, Option.bind_some]
  rw [e1]; simp only [Option.bind_some]
  rw [a1, a2]; simp only [Option.bind_some]
  rw [hs]
  simp only [beq_self_eq_true, Bool.and_self, Bool.not_true, cond_false, Option.bind_some, impl_PileSums_ok]
  cases hv : v.2.2 with
  | false => rfl
  | true =>
    obtain ⟨g1, g2, g3, g4, g5⟩ := a4 hv
    have f1 := sums_bound _ (pileB_spec g1).1
    have f2 := sums_bound _ (pileB_spec g2).1
    have l1 := (pileB_spec g1).2.2.2.1
    dsimp only at g4 g5 f1 f2 l1
    simp only [cond_true, g1, g2, g3, if_true, Bool.not_true, cond_false, bne_self_eq_false]
    rw [wr (n := tS v.1.2.2 + t) (by omega) (by omega), wr (n := mS v.1.2.2 + v.2.1.2.1) (by omega) (by omega), ← g4, ← g5]
    simp only [bne_self_eq_false, cond_false]
end
end Go.OAI
