/- What each function computes (printed by wip/sim/gen.py). -/
import Derived.Test.YtplamonjnlgomaaGreatDoorTab
namespace Go.Proofs.YtplamonjnlgomaaGreatDoorS
open Go Go.Proofs
set_option maxRecDepth 100000
set_option linter.unusedVariables false
theorem laws_FnPlainsGo.eq (k : Nat) (code : List Int) (more : List Int) : laws_FnPlainsGo (k + 1) (code, more) =
  (laws_big k (code, more)).bind fun r1 =>
  cond r1
  (some true)
  ((spec_DrawPlainAfter k code).bind fun r2 =>
   (impl_PlainAfter k r2).bind fun r3 =>
   (spec_PlainAfter k r2).bind fun r4 =>
   (impl_PlainBefore k r2).bind fun r5 =>
   (spec_PlainBefore k r2).bind fun r6 =>
   (impl_TurnsOfPlain k r2).bind fun r7 =>
   (spec_TurnsOfPlain k r2).bind fun r8 =>
   cond (!(r3.2 == r4.2))
   (some false)
   ((laws_dPlain k (r3.1, r4.1)).bind fun r9 =>
    cond (!r9)
    (some false)
    (cond (!(r5.2 == r6.2))
     (some false)
     ((laws_dPlain k (r5.1, r6.1)).bind fun r10 =>
      cond (!r10)
      (some false)
      (cond (!(r7.2 == r8.2))
       (some false)
       (cond (!(strEq r7.1 r8.1))
        (some false)
        (cond (!(r7.2 == r3.2))
         (some false)
         ((impl_IsPlain k r2.1).bind fun r11 =>
          (spec_IsPlain k r2.1).bind fun r12 =>
          cond (!(r11 == r12))
          (some false)
          (cond r3.2
           ((impl_IsPlain k r2.1).bind fun r13 =>
            cond (!r13)
            (some false)
            (cond r3.2
             ((impl_PlainBefore k (r3.1, r2.2)).bind fun r14 =>
              (impl_DriftOf k (r2.1, 0, r2.2)).bind fun r15 =>
              (impl_IsPlain k r3.1).bind fun r16 =>
              cond (!r16)
              (some false)
              (cond (!r14.2)
               (some false)
               ((laws_dPlain k (r14.1, r2.1)).bind fun r17 =>
                cond (!r17)
                (some false)
                (cond ((r7.1.size : Int) != r2.2)
                 (some false)
                 (cond (!r15.2.2)
                  (some false)
                  (cond ((w64 (r3.1.2.2.1 - r2.1.2.2.1)) != r15.1)
                   (some false)
                   (cond ((w64 (r3.1.2.2.2.1 - r2.1.2.2.2.1)) != r15.2.1)
                    (some false)
                    (cond (decide (r15.1 > r2.2))
                     (some false)
                     (cond (decide (r15.1 < (w64 (0 - r2.2))))
                      (some false)
                      (cond (decide (r15.2.1 > r2.2))
                       (some false)
                       (cond (decide (r15.2.1 < (w64 (0 - r2.2))))
                        (some false)
                        (cond (decide (r2.2 > 0))
                         ((impl_StepPlain k r2.1).bind fun r18 =>
                          (impl_PlainAfter k (r18.1, (w64 (r2.2 - 1)))).bind fun r19 =>
                          (impl_ColourOfSpot k (r2.1, r2.1.2.2.1, r2.1.2.2.2.1)).bind fun r20 =>
                          cond (!r18.2)
                          (some false)
                          (cond (!r19.2)
                           (some false)
                           ((laws_dPlain k (r19.1, r3.1)).bind fun r21 =>
                            cond (!r21)
                            (some false)
                            (cond (!r20.2)
                             (some false)
                             (cond (inB 0 r7.1.size)
                              (cond (inB r20.1 r2.1.1.size)
                               (cond ((bt r7.1 0) != (bt r2.1.1 r20.1.toNat))
                                (some false)
                                (cond r5.2
                                 ((impl_PlainAfter k (r5.1, r2.2)).bind fun r22 =>
                                  cond (!r22.2)
                                  (some false)
                                  ((laws_dPlain k (r22.1, r2.1)).bind fun r23 =>
                                   cond (!r23)
                                   (some false)
                                   ((spec_DrawStepPlain k more).bind fun r24 =>
                                    (impl_StepPlain k r24).bind fun r25 =>
                                    (spec_StepPlain k r24).bind fun r26 =>
                                    (spec_DrawIsHighway k more).bind fun r27 =>
                                    (impl_DriftOf k r27).bind fun r28 =>
                                    (spec_DriftOf k r27).bind fun r29 =>
                                    (impl_IsHighway k r27).bind fun r30 =>
                                    (spec_IsHighway k r27).bind fun r31 =>
                                    cond (!(r25.2 == r26.2))
                                    (some false)
                                    ((laws_dPlain k (r25.1, r26.1)).bind fun r32 =>
                                     cond (!r32)
                                     (some false)
                                     (cond (!(r28.2.2 == r29.2.2))
                                      (some false)
                                      (cond (r28.1 != r29.1)
                                       (some false)
                                       (cond (r28.2.1 != r29.2.1)
                                        (some false)
                                        (cond (!(r30.2 == r31.2))
                                         (some false)
                                         (cond (!(r30.1 == r31.1))
                                          (some false)
                                          (cond r30.2
                                           (cond (!r28.2.2)
                                            (some false)
                                            (cond r30.2
                                             (cond r30.1
                                              ((impl_DriftOf k (r27.1, (w64 (r27.2.1 + r27.2.2)), r27.2.2)).bind fun r33 =>
                                               (impl_DriftOf k (r27.1, r27.2.1, (w64 (3 * r27.2.2)))).bind fun r34 =>
                                               cond (!r33.2.2)
                                               (some false)
                                               (cond (!r34.2.2)
                                                (some false)
                                                (cond (r33.1 != r28.1)
                                                 (some false)
                                                 (cond (r33.2.1 != r28.2.1)
                                                  (some false)
                                                  (cond (r34.1 != (w64 (3 * r28.1)))
                                                   (some false)
                                                   (cond (r34.2.1 != (w64 (3 * r28.2.1)))
                                                    (some false)
                                                    (cond (r28.1 == 0)
                                                     (cond (r28.2.1 == 0)
                                                      (some false)
                                                      (some true))
                                                     (some true))))))))
                                              (some true))
                                             (some true)))
                                           (cond r30.2
                                            (cond r30.1
                                             ((impl_DriftOf k (r27.1, (w64 (r27.2.1 + r27.2.2)), r27.2.2)).bind fun r35 =>
                                              (impl_DriftOf k (r27.1, r27.2.1, (w64 (3 * r27.2.2)))).bind fun r36 =>
                                              cond (!r35.2.2)
                                              (some false)
                                              (cond (!r36.2.2)
                                               (some false)
                                               (cond (r35.1 != r28.1)
                                                (some false)
                                                (cond (r35.2.1 != r28.2.1)
                                                 (some false)
                                                 (cond (r36.1 != (w64 (3 * r28.1)))
                                                  (some false)
                                                  (cond (r36.2.1 != (w64 (3 * r28.2.1)))
                                                   (some false)
                                                   (cond (r28.1 == 0)
                                                    (cond (r28.2.1 == 0)
                                                     (some false)
                                                     (some true))
                                                    (some true))))))))
                                             (some true))
                                            (some true))))))))))))
                                 ((spec_DrawStepPlain k more).bind fun r37 =>
                                  (impl_StepPlain k r37).bind fun r38 =>
                                  (spec_StepPlain k r37).bind fun r39 =>
                                  (spec_DrawIsHighway k more).bind fun r40 =>
                                  (impl_DriftOf k r40).bind fun r41 =>
                                  (spec_DriftOf k r40).bind fun r42 =>
                                  (impl_IsHighway k r40).bind fun r43 =>
                                  (spec_IsHighway k r40).bind fun r44 =>
                                  cond (!(r38.2 == r39.2))
                                  (some false)
                                  ((laws_dPlain k (r38.1, r39.1)).bind fun r45 =>
                                   cond (!r45)
                                   (some false)
                                   (cond (!(r41.2.2 == r42.2.2))
                                    (some false)
                                    (cond (r41.1 != r42.1)
                                     (some false)
                                     (cond (r41.2.1 != r42.2.1)
                                      (some false)
                                      (cond (!(r43.2 == r44.2))
                                       (some false)
                                       (cond (!(r43.1 == r44.1))
                                        (some false)
                                        (cond r43.2
                                         (cond (!r41.2.2)
                                          (some false)
                                          (cond r43.2
                                           (cond r43.1
                                            ((impl_DriftOf k (r40.1, (w64 (r40.2.1 + r40.2.2)), r40.2.2)).bind fun r46 =>
                                             (impl_DriftOf k (r40.1, r40.2.1, (w64 (3 * r40.2.2)))).bind fun r47 =>
                                             cond (!r46.2.2)
                                             (some false)
                                             (cond (!r47.2.2)
                                              (some false)
                                              (cond (r46.1 != r41.1)
                                               (some false)
                                               (cond (r46.2.1 != r41.2.1)
                                                (some false)
                                                (cond (r47.1 != (w64 (3 * r41.1)))
                                                 (some false)
                                                 (cond (r47.2.1 != (w64 (3 * r41.2.1)))
                                                  (some false)
                                                  (cond (r41.1 == 0)
                                                   (cond (r41.2.1 == 0)
                                                    (some false)
                                                    (some true))
                                                   (some true))))))))
                                            (some true))
                                           (some true)))
                                         (cond r43.2
                                          (cond r43.1
                                           ((impl_DriftOf k (r40.1, (w64 (r40.2.1 + r40.2.2)), r40.2.2)).bind fun r48 =>
                                            (impl_DriftOf k (r40.1, r40.2.1, (w64 (3 * r40.2.2)))).bind fun r49 =>
                                            cond (!r48.2.2)
                                            (some false)
                                            (cond (!r49.2.2)
                                             (some false)
                                             (cond (r48.1 != r41.1)
                                              (some false)
                                              (cond (r48.2.1 != r41.2.1)
                                               (some false)
                                               (cond (r49.1 != (w64 (3 * r41.1)))
                                                (some false)
                                                (cond (r49.2.1 != (w64 (3 * r41.2.1)))
                                                 (some false)
                                                 (cond (r41.1 == 0)
                                                  (cond (r41.2.1 == 0)
                                                   (some false)
                                                   (some true))
                                                  (some true))))))))
                                           (some true))
                                          (some true))))))))))))
                               (none))
                              (none))))))
                         (cond r5.2
                          ((impl_PlainAfter k (r5.1, r2.2)).bind fun r50 =>
                           cond (!r50.2)
                           (some false)
                           ((laws_dPlain k (r50.1, r2.1)).bind fun r51 =>
                            cond (!r51)
                            (some false)
                            ((spec_DrawStepPlain k more).bind fun r52 =>
                             (impl_StepPlain k r52).bind fun r53 =>
                             (spec_StepPlain k r52).bind fun r54 =>
                             (spec_DrawIsHighway k more).bind fun r55 =>
                             (impl_DriftOf k r55).bind fun r56 =>
                             (spec_DriftOf k r55).bind fun r57 =>
                             (impl_IsHighway k r55).bind fun r58 =>
                             (spec_IsHighway k r55).bind fun r59 =>
                             cond (!(r53.2 == r54.2))
                             (some false)
                             ((laws_dPlain k (r53.1, r54.1)).bind fun r60 =>
                              cond (!r60)
                              (some false)
                              (cond (!(r56.2.2 == r57.2.2))
                               (some false)
                               (cond (r56.1 != r57.1)
                                (some false)
                                (cond (r56.2.1 != r57.2.1)
                                 (some false)
                                 (cond (!(r58.2 == r59.2))
                                  (some false)
                                  (cond (!(r58.1 == r59.1))
                                   (some false)
                                   (cond r58.2
                                    (cond (!r56.2.2)
                                     (some false)
                                     (cond r58.2
                                      (cond r58.1
                                       ((impl_DriftOf k (r55.1, (w64 (r55.2.1 + r55.2.2)), r55.2.2)).bind fun r61 =>
                                        (impl_DriftOf k (r55.1, r55.2.1, (w64 (3 * r55.2.2)))).bind fun r62 =>
                                        cond (!r61.2.2)
                                        (some false)
                                        (cond (!r62.2.2)
                                         (some false)
                                         (cond (r61.1 != r56.1)
                                          (some false)
                                          (cond (r61.2.1 != r56.2.1)
                                           (some false)
                                           (cond (r62.1 != (w64 (3 * r56.1)))
                                            (some false)
                                            (cond (r62.2.1 != (w64 (3 * r56.2.1)))
                                             (some false)
                                             (cond (r56.1 == 0)
                                              (cond (r56.2.1 == 0)
                                               (some false)
                                               (some true))
                                              (some true))))))))
                                       (some true))
                                      (some true)))
                                    (cond r58.2
                                     (cond r58.1
                                      ((impl_DriftOf k (r55.1, (w64 (r55.2.1 + r55.2.2)), r55.2.2)).bind fun r63 =>
                                       (impl_DriftOf k (r55.1, r55.2.1, (w64 (3 * r55.2.2)))).bind fun r64 =>
                                       cond (!r63.2.2)
                                       (some false)
                                       (cond (!r64.2.2)
                                        (some false)
                                        (cond (r63.1 != r56.1)
                                         (some false)
                                         (cond (r63.2.1 != r56.2.1)
                                          (some false)
                                          (cond (r64.1 != (w64 (3 * r56.1)))
                                           (some false)
                                           (cond (r64.2.1 != (w64 (3 * r56.2.1)))
                                            (some false)
                                            (cond (r56.1 == 0)
                                             (cond (r56.2.1 == 0)
                                              (some false)
                                              (some true))
                                             (some true))))))))
                                      (some true))
                                     (some true))))))))))))
                          ((spec_DrawStepPlain k more).bind fun r65 =>
                           (impl_StepPlain k r65).bind fun r66 =>
                           (spec_StepPlain k r65).bind fun r67 =>
                           (spec_DrawIsHighway k more).bind fun r68 =>
                           (impl_DriftOf k r68).bind fun r69 =>
                           (spec_DriftOf k r68).bind fun r70 =>
                           (impl_IsHighway k r68).bind fun r71 =>
                           (spec_IsHighway k r68).bind fun r72 =>
                           cond (!(r66.2 == r67.2))
                           (some false)
                           ((laws_dPlain k (r66.1, r67.1)).bind fun r73 =>
                            cond (!r73)
                            (some false)
                            (cond (!(r69.2.2 == r70.2.2))
                             (some false)
                             (cond (r69.1 != r70.1)
                              (some false)
                              (cond (r69.2.1 != r70.2.1)
                               (some false)
                               (cond (!(r71.2 == r72.2))
                                (some false)
                                (cond (!(r71.1 == r72.1))
                                 (some false)
                                 (cond r71.2
                                  (cond (!r69.2.2)
                                   (some false)
                                   (cond r71.2
                                    (cond r71.1
                                     ((impl_DriftOf k (r68.1, (w64 (r68.2.1 + r68.2.2)), r68.2.2)).bind fun r74 =>
                                      (impl_DriftOf k (r68.1, r68.2.1, (w64 (3 * r68.2.2)))).bind fun r75 =>
                                      cond (!r74.2.2)
                                      (some false)
                                      (cond (!r75.2.2)
                                       (some false)
                                       (cond (r74.1 != r69.1)
                                        (some false)
                                        (cond (r74.2.1 != r69.2.1)
                                         (some false)
                                         (cond (r75.1 != (w64 (3 * r69.1)))
                                          (some false)
                                          (cond (r75.2.1 != (w64 (3 * r69.2.1)))
                                           (some false)
                                           (cond (r69.1 == 0)
                                            (cond (r69.2.1 == 0)
                                             (some false)
                                             (some true))
                                            (some true))))))))
                                     (some true))
                                    (some true)))
                                  (cond r71.2
                                   (cond r71.1
                                    ((impl_DriftOf k (r68.1, (w64 (r68.2.1 + r68.2.2)), r68.2.2)).bind fun r76 =>
                                     (impl_DriftOf k (r68.1, r68.2.1, (w64 (3 * r68.2.2)))).bind fun r77 =>
                                     cond (!r76.2.2)
                                     (some false)
                                     (cond (!r77.2.2)
                                      (some false)
                                      (cond (r76.1 != r69.1)
                                       (some false)
                                       (cond (r76.2.1 != r69.2.1)
                                        (some false)
                                        (cond (r77.1 != (w64 (3 * r69.1)))
                                         (some false)
                                         (cond (r77.2.1 != (w64 (3 * r69.2.1)))
                                          (some false)
                                          (cond (r69.1 == 0)
                                           (cond (r69.2.1 == 0)
                                            (some false)
                                            (some true))
                                           (some true))))))))
                                    (some true))
                                   (some true)))))))))))))))))))))))
             (cond r5.2
              ((impl_PlainAfter k (r5.1, r2.2)).bind fun r78 =>
               cond (!r78.2)
               (some false)
               ((laws_dPlain k (r78.1, r2.1)).bind fun r79 =>
                cond (!r79)
                (some false)
                ((spec_DrawStepPlain k more).bind fun r80 =>
                 (impl_StepPlain k r80).bind fun r81 =>
                 (spec_StepPlain k r80).bind fun r82 =>
                 (spec_DrawIsHighway k more).bind fun r83 =>
                 (impl_DriftOf k r83).bind fun r84 =>
                 (spec_DriftOf k r83).bind fun r85 =>
                 (impl_IsHighway k r83).bind fun r86 =>
                 (spec_IsHighway k r83).bind fun r87 =>
                 cond (!(r81.2 == r82.2))
                 (some false)
                 ((laws_dPlain k (r81.1, r82.1)).bind fun r88 =>
                  cond (!r88)
                  (some false)
                  (cond (!(r84.2.2 == r85.2.2))
                   (some false)
                   (cond (r84.1 != r85.1)
                    (some false)
                    (cond (r84.2.1 != r85.2.1)
                     (some false)
                     (cond (!(r86.2 == r87.2))
                      (some false)
                      (cond (!(r86.1 == r87.1))
                       (some false)
                       (cond r86.2
                        (cond (!r84.2.2)
                         (some false)
                         (cond r86.2
                          (cond r86.1
                           ((impl_DriftOf k (r83.1, (w64 (r83.2.1 + r83.2.2)), r83.2.2)).bind fun r89 =>
                            (impl_DriftOf k (r83.1, r83.2.1, (w64 (3 * r83.2.2)))).bind fun r90 =>
                            cond (!r89.2.2)
                            (some false)
                            (cond (!r90.2.2)
                             (some false)
                             (cond (r89.1 != r84.1)
                              (some false)
                              (cond (r89.2.1 != r84.2.1)
                               (some false)
                               (cond (r90.1 != (w64 (3 * r84.1)))
                                (some false)
                                (cond (r90.2.1 != (w64 (3 * r84.2.1)))
                                 (some false)
                                 (cond (r84.1 == 0)
                                  (cond (r84.2.1 == 0)
                                   (some false)
                                   (some true))
                                  (some true))))))))
                           (some true))
                          (some true)))
                        (cond r86.2
                         (cond r86.1
                          ((impl_DriftOf k (r83.1, (w64 (r83.2.1 + r83.2.2)), r83.2.2)).bind fun r91 =>
                           (impl_DriftOf k (r83.1, r83.2.1, (w64 (3 * r83.2.2)))).bind fun r92 =>
                           cond (!r91.2.2)
                           (some false)
                           (cond (!r92.2.2)
                            (some false)
                            (cond (r91.1 != r84.1)
                             (some false)
                             (cond (r91.2.1 != r84.2.1)
                              (some false)
                              (cond (r92.1 != (w64 (3 * r84.1)))
                               (some false)
                               (cond (r92.2.1 != (w64 (3 * r84.2.1)))
                                (some false)
                                (cond (r84.1 == 0)
                                 (cond (r84.2.1 == 0)
                                  (some false)
                                  (some true))
                                 (some true))))))))
                          (some true))
                         (some true))))))))))))
              ((spec_DrawStepPlain k more).bind fun r93 =>
               (impl_StepPlain k r93).bind fun r94 =>
               (spec_StepPlain k r93).bind fun r95 =>
               (spec_DrawIsHighway k more).bind fun r96 =>
               (impl_DriftOf k r96).bind fun r97 =>
               (spec_DriftOf k r96).bind fun r98 =>
               (impl_IsHighway k r96).bind fun r99 =>
               (spec_IsHighway k r96).bind fun r100 =>
               cond (!(r94.2 == r95.2))
               (some false)
               ((laws_dPlain k (r94.1, r95.1)).bind fun r101 =>
                cond (!r101)
                (some false)
                (cond (!(r97.2.2 == r98.2.2))
                 (some false)
                 (cond (r97.1 != r98.1)
                  (some false)
                  (cond (r97.2.1 != r98.2.1)
                   (some false)
                   (cond (!(r99.2 == r100.2))
                    (some false)
                    (cond (!(r99.1 == r100.1))
                     (some false)
                     (cond r99.2
                      (cond (!r97.2.2)
                       (some false)
                       (cond r99.2
                        (cond r99.1
                         ((impl_DriftOf k (r96.1, (w64 (r96.2.1 + r96.2.2)), r96.2.2)).bind fun r102 =>
                          (impl_DriftOf k (r96.1, r96.2.1, (w64 (3 * r96.2.2)))).bind fun r103 =>
                          cond (!r102.2.2)
                          (some false)
                          (cond (!r103.2.2)
                           (some false)
                           (cond (r102.1 != r97.1)
                            (some false)
                            (cond (r102.2.1 != r97.2.1)
                             (some false)
                             (cond (r103.1 != (w64 (3 * r97.1)))
                              (some false)
                              (cond (r103.2.1 != (w64 (3 * r97.2.1)))
                               (some false)
                               (cond (r97.1 == 0)
                                (cond (r97.2.1 == 0)
                                 (some false)
                                 (some true))
                                (some true))))))))
                         (some true))
                        (some true)))
                      (cond r99.2
                       (cond r99.1
                        ((impl_DriftOf k (r96.1, (w64 (r96.2.1 + r96.2.2)), r96.2.2)).bind fun r104 =>
                         (impl_DriftOf k (r96.1, r96.2.1, (w64 (3 * r96.2.2)))).bind fun r105 =>
                         cond (!r104.2.2)
                         (some false)
                         (cond (!r105.2.2)
                          (some false)
                          (cond (r104.1 != r97.1)
                           (some false)
                           (cond (r104.2.1 != r97.2.1)
                            (some false)
                            (cond (r105.1 != (w64 (3 * r97.1)))
                             (some false)
                             (cond (r105.2.1 != (w64 (3 * r97.2.1)))
                              (some false)
                              (cond (r97.1 == 0)
                               (cond (r97.2.1 == 0)
                                (some false)
                                (some true))
                               (some true))))))))
                        (some true))
                       (some true)))))))))))))
           (cond r3.2
            ((impl_PlainBefore k (r3.1, r2.2)).bind fun r106 =>
             (impl_DriftOf k (r2.1, 0, r2.2)).bind fun r107 =>
             (impl_IsPlain k r3.1).bind fun r108 =>
             cond (!r108)
             (some false)
             (cond (!r106.2)
              (some false)
              ((laws_dPlain k (r106.1, r2.1)).bind fun r109 =>
               cond (!r109)
               (some false)
               (cond ((r7.1.size : Int) != r2.2)
                (some false)
                (cond (!r107.2.2)
                 (some false)
                 (cond ((w64 (r3.1.2.2.1 - r2.1.2.2.1)) != r107.1)
                  (some false)
                  (cond ((w64 (r3.1.2.2.2.1 - r2.1.2.2.2.1)) != r107.2.1)
                   (some false)
                   (cond (decide (r107.1 > r2.2))
                    (some false)
                    (cond (decide (r107.1 < (w64 (0 - r2.2))))
                     (some false)
                     (cond (decide (r107.2.1 > r2.2))
                      (some false)
                      (cond (decide (r107.2.1 < (w64 (0 - r2.2))))
                       (some false)
                       (cond (decide (r2.2 > 0))
                        ((impl_StepPlain k r2.1).bind fun r110 =>
                         (impl_PlainAfter k (r110.1, (w64 (r2.2 - 1)))).bind fun r111 =>
                         (impl_ColourOfSpot k (r2.1, r2.1.2.2.1, r2.1.2.2.2.1)).bind fun r112 =>
                         cond (!r110.2)
                         (some false)
                         (cond (!r111.2)
                          (some false)
                          ((laws_dPlain k (r111.1, r3.1)).bind fun r113 =>
                           cond (!r113)
                           (some false)
                           (cond (!r112.2)
                            (some false)
                            (cond (inB 0 r7.1.size)
                             (cond (inB r112.1 r2.1.1.size)
                              (cond ((bt r7.1 0) != (bt r2.1.1 r112.1.toNat))
                               (some false)
                               (cond r5.2
                                ((impl_PlainAfter k (r5.1, r2.2)).bind fun r114 =>
                                 cond (!r114.2)
                                 (some false)
                                 ((laws_dPlain k (r114.1, r2.1)).bind fun r115 =>
                                  cond (!r115)
                                  (some false)
                                  ((spec_DrawStepPlain k more).bind fun r116 =>
                                   (impl_StepPlain k r116).bind fun r117 =>
                                   (spec_StepPlain k r116).bind fun r118 =>
                                   (spec_DrawIsHighway k more).bind fun r119 =>
                                   (impl_DriftOf k r119).bind fun r120 =>
                                   (spec_DriftOf k r119).bind fun r121 =>
                                   (impl_IsHighway k r119).bind fun r122 =>
                                   (spec_IsHighway k r119).bind fun r123 =>
                                   cond (!(r117.2 == r118.2))
                                   (some false)
                                   ((laws_dPlain k (r117.1, r118.1)).bind fun r124 =>
                                    cond (!r124)
                                    (some false)
                                    (cond (!(r120.2.2 == r121.2.2))
                                     (some false)
                                     (cond (r120.1 != r121.1)
                                      (some false)
                                      (cond (r120.2.1 != r121.2.1)
                                       (some false)
                                       (cond (!(r122.2 == r123.2))
                                        (some false)
                                        (cond (!(r122.1 == r123.1))
                                         (some false)
                                         (cond r122.2
                                          (cond (!r120.2.2)
                                           (some false)
                                           (cond r122.2
                                            (cond r122.1
                                             ((impl_DriftOf k (r119.1, (w64 (r119.2.1 + r119.2.2)), r119.2.2)).bind fun r125 =>
                                              (impl_DriftOf k (r119.1, r119.2.1, (w64 (3 * r119.2.2)))).bind fun r126 =>
                                              cond (!r125.2.2)
                                              (some false)
                                              (cond (!r126.2.2)
                                               (some false)
                                               (cond (r125.1 != r120.1)
                                                (some false)
                                                (cond (r125.2.1 != r120.2.1)
                                                 (some false)
                                                 (cond (r126.1 != (w64 (3 * r120.1)))
                                                  (some false)
                                                  (cond (r126.2.1 != (w64 (3 * r120.2.1)))
                                                   (some false)
                                                   (cond (r120.1 == 0)
                                                    (cond (r120.2.1 == 0)
                                                     (some false)
                                                     (some true))
                                                    (some true))))))))
                                             (some true))
                                            (some true)))
                                          (cond r122.2
                                           (cond r122.1
                                            ((impl_DriftOf k (r119.1, (w64 (r119.2.1 + r119.2.2)), r119.2.2)).bind fun r127 =>
                                             (impl_DriftOf k (r119.1, r119.2.1, (w64 (3 * r119.2.2)))).bind fun r128 =>
                                             cond (!r127.2.2)
                                             (some false)
                                             (cond (!r128.2.2)
                                              (some false)
                                              (cond (r127.1 != r120.1)
                                               (some false)
                                               (cond (r127.2.1 != r120.2.1)
                                                (some false)
                                                (cond (r128.1 != (w64 (3 * r120.1)))
                                                 (some false)
                                                 (cond (r128.2.1 != (w64 (3 * r120.2.1)))
                                                  (some false)
                                                  (cond (r120.1 == 0)
                                                   (cond (r120.2.1 == 0)
                                                    (some false)
                                                    (some true))
                                                   (some true))))))))
                                            (some true))
                                           (some true))))))))))))
                                ((spec_DrawStepPlain k more).bind fun r129 =>
                                 (impl_StepPlain k r129).bind fun r130 =>
                                 (spec_StepPlain k r129).bind fun r131 =>
                                 (spec_DrawIsHighway k more).bind fun r132 =>
                                 (impl_DriftOf k r132).bind fun r133 =>
                                 (spec_DriftOf k r132).bind fun r134 =>
                                 (impl_IsHighway k r132).bind fun r135 =>
                                 (spec_IsHighway k r132).bind fun r136 =>
                                 cond (!(r130.2 == r131.2))
                                 (some false)
                                 ((laws_dPlain k (r130.1, r131.1)).bind fun r137 =>
                                  cond (!r137)
                                  (some false)
                                  (cond (!(r133.2.2 == r134.2.2))
                                   (some false)
                                   (cond (r133.1 != r134.1)
                                    (some false)
                                    (cond (r133.2.1 != r134.2.1)
                                     (some false)
                                     (cond (!(r135.2 == r136.2))
                                      (some false)
                                      (cond (!(r135.1 == r136.1))
                                       (some false)
                                       (cond r135.2
                                        (cond (!r133.2.2)
                                         (some false)
                                         (cond r135.2
                                          (cond r135.1
                                           ((impl_DriftOf k (r132.1, (w64 (r132.2.1 + r132.2.2)), r132.2.2)).bind fun r138 =>
                                            (impl_DriftOf k (r132.1, r132.2.1, (w64 (3 * r132.2.2)))).bind fun r139 =>
                                            cond (!r138.2.2)
                                            (some false)
                                            (cond (!r139.2.2)
                                             (some false)
                                             (cond (r138.1 != r133.1)
                                              (some false)
                                              (cond (r138.2.1 != r133.2.1)
                                               (some false)
                                               (cond (r139.1 != (w64 (3 * r133.1)))
                                                (some false)
                                                (cond (r139.2.1 != (w64 (3 * r133.2.1)))
                                                 (some false)
                                                 (cond (r133.1 == 0)
                                                  (cond (r133.2.1 == 0)
                                                   (some false)
                                                   (some true))
                                                  (some true))))))))
                                           (some true))
                                          (some true)))
                                        (cond r135.2
                                         (cond r135.1
                                          ((impl_DriftOf k (r132.1, (w64 (r132.2.1 + r132.2.2)), r132.2.2)).bind fun r140 =>
                                           (impl_DriftOf k (r132.1, r132.2.1, (w64 (3 * r132.2.2)))).bind fun r141 =>
                                           cond (!r140.2.2)
                                           (some false)
                                           (cond (!r141.2.2)
                                            (some false)
                                            (cond (r140.1 != r133.1)
                                             (some false)
                                             (cond (r140.2.1 != r133.2.1)
                                              (some false)
                                              (cond (r141.1 != (w64 (3 * r133.1)))
                                               (some false)
                                               (cond (r141.2.1 != (w64 (3 * r133.2.1)))
                                                (some false)
                                                (cond (r133.1 == 0)
                                                 (cond (r133.2.1 == 0)
                                                  (some false)
                                                  (some true))
                                                 (some true))))))))
                                          (some true))
                                         (some true))))))))))))
                              (none))
                             (none))))))
                        (cond r5.2
                         ((impl_PlainAfter k (r5.1, r2.2)).bind fun r142 =>
                          cond (!r142.2)
                          (some false)
                          ((laws_dPlain k (r142.1, r2.1)).bind fun r143 =>
                           cond (!r143)
                           (some false)
                           ((spec_DrawStepPlain k more).bind fun r144 =>
                            (impl_StepPlain k r144).bind fun r145 =>
                            (spec_StepPlain k r144).bind fun r146 =>
                            (spec_DrawIsHighway k more).bind fun r147 =>
                            (impl_DriftOf k r147).bind fun r148 =>
                            (spec_DriftOf k r147).bind fun r149 =>
                            (impl_IsHighway k r147).bind fun r150 =>
                            (spec_IsHighway k r147).bind fun r151 =>
                            cond (!(r145.2 == r146.2))
                            (some false)
                            ((laws_dPlain k (r145.1, r146.1)).bind fun r152 =>
                             cond (!r152)
                             (some false)
                             (cond (!(r148.2.2 == r149.2.2))
                              (some false)
                              (cond (r148.1 != r149.1)
                               (some false)
                               (cond (r148.2.1 != r149.2.1)
                                (some false)
                                (cond (!(r150.2 == r151.2))
                                 (some false)
                                 (cond (!(r150.1 == r151.1))
                                  (some false)
                                  (cond r150.2
                                   (cond (!r148.2.2)
                                    (some false)
                                    (cond r150.2
                                     (cond r150.1
                                      ((impl_DriftOf k (r147.1, (w64 (r147.2.1 + r147.2.2)), r147.2.2)).bind fun r153 =>
                                       (impl_DriftOf k (r147.1, r147.2.1, (w64 (3 * r147.2.2)))).bind fun r154 =>
                                       cond (!r153.2.2)
                                       (some false)
                                       (cond (!r154.2.2)
                                        (some false)
                                        (cond (r153.1 != r148.1)
                                         (some false)
                                         (cond (r153.2.1 != r148.2.1)
                                          (some false)
                                          (cond (r154.1 != (w64 (3 * r148.1)))
                                           (some false)
                                           (cond (r154.2.1 != (w64 (3 * r148.2.1)))
                                            (some false)
                                            (cond (r148.1 == 0)
                                             (cond (r148.2.1 == 0)
                                              (some false)
                                              (some true))
                                             (some true))))))))
                                      (some true))
                                     (some true)))
                                   (cond r150.2
                                    (cond r150.1
                                     ((impl_DriftOf k (r147.1, (w64 (r147.2.1 + r147.2.2)), r147.2.2)).bind fun r155 =>
                                      (impl_DriftOf k (r147.1, r147.2.1, (w64 (3 * r147.2.2)))).bind fun r156 =>
                                      cond (!r155.2.2)
                                      (some false)
                                      (cond (!r156.2.2)
                                       (some false)
                                       (cond (r155.1 != r148.1)
                                        (some false)
                                        (cond (r155.2.1 != r148.2.1)
                                         (some false)
                                         (cond (r156.1 != (w64 (3 * r148.1)))
                                          (some false)
                                          (cond (r156.2.1 != (w64 (3 * r148.2.1)))
                                           (some false)
                                           (cond (r148.1 == 0)
                                            (cond (r148.2.1 == 0)
                                             (some false)
                                             (some true))
                                            (some true))))))))
                                     (some true))
                                    (some true))))))))))))
                         ((spec_DrawStepPlain k more).bind fun r157 =>
                          (impl_StepPlain k r157).bind fun r158 =>
                          (spec_StepPlain k r157).bind fun r159 =>
                          (spec_DrawIsHighway k more).bind fun r160 =>
                          (impl_DriftOf k r160).bind fun r161 =>
                          (spec_DriftOf k r160).bind fun r162 =>
                          (impl_IsHighway k r160).bind fun r163 =>
                          (spec_IsHighway k r160).bind fun r164 =>
                          cond (!(r158.2 == r159.2))
                          (some false)
                          ((laws_dPlain k (r158.1, r159.1)).bind fun r165 =>
                           cond (!r165)
                           (some false)
                           (cond (!(r161.2.2 == r162.2.2))
                            (some false)
                            (cond (r161.1 != r162.1)
                             (some false)
                             (cond (r161.2.1 != r162.2.1)
                              (some false)
                              (cond (!(r163.2 == r164.2))
                               (some false)
                               (cond (!(r163.1 == r164.1))
                                (some false)
                                (cond r163.2
                                 (cond (!r161.2.2)
                                  (some false)
                                  (cond r163.2
                                   (cond r163.1
                                    ((impl_DriftOf k (r160.1, (w64 (r160.2.1 + r160.2.2)), r160.2.2)).bind fun r166 =>
                                     (impl_DriftOf k (r160.1, r160.2.1, (w64 (3 * r160.2.2)))).bind fun r167 =>
                                     cond (!r166.2.2)
                                     (some false)
                                     (cond (!r167.2.2)
                                      (some false)
                                      (cond (r166.1 != r161.1)
                                       (some false)
                                       (cond (r166.2.1 != r161.2.1)
                                        (some false)
                                        (cond (r167.1 != (w64 (3 * r161.1)))
                                         (some false)
                                         (cond (r167.2.1 != (w64 (3 * r161.2.1)))
                                          (some false)
                                          (cond (r161.1 == 0)
                                           (cond (r161.2.1 == 0)
                                            (some false)
                                            (some true))
                                           (some true))))))))
                                    (some true))
                                   (some true)))
                                 (cond r163.2
                                  (cond r163.1
                                   ((impl_DriftOf k (r160.1, (w64 (r160.2.1 + r160.2.2)), r160.2.2)).bind fun r168 =>
                                    (impl_DriftOf k (r160.1, r160.2.1, (w64 (3 * r160.2.2)))).bind fun r169 =>
                                    cond (!r168.2.2)
                                    (some false)
                                    (cond (!r169.2.2)
                                     (some false)
                                     (cond (r168.1 != r161.1)
                                      (some false)
                                      (cond (r168.2.1 != r161.2.1)
                                       (some false)
                                       (cond (r169.1 != (w64 (3 * r161.1)))
                                        (some false)
                                        (cond (r169.2.1 != (w64 (3 * r161.2.1)))
                                         (some false)
                                         (cond (r161.1 == 0)
                                          (cond (r161.2.1 == 0)
                                           (some false)
                                           (some true))
                                          (some true))))))))
                                   (some true))
                                  (some true)))))))))))))))))))))))
            (cond r5.2
             ((impl_PlainAfter k (r5.1, r2.2)).bind fun r170 =>
              cond (!r170.2)
              (some false)
              ((laws_dPlain k (r170.1, r2.1)).bind fun r171 =>
               cond (!r171)
               (some false)
               ((spec_DrawStepPlain k more).bind fun r172 =>
                (impl_StepPlain k r172).bind fun r173 =>
                (spec_StepPlain k r172).bind fun r174 =>
                (spec_DrawIsHighway k more).bind fun r175 =>
                (impl_DriftOf k r175).bind fun r176 =>
                (spec_DriftOf k r175).bind fun r177 =>
                (impl_IsHighway k r175).bind fun r178 =>
                (spec_IsHighway k r175).bind fun r179 =>
                cond (!(r173.2 == r174.2))
                (some false)
                ((laws_dPlain k (r173.1, r174.1)).bind fun r180 =>
                 cond (!r180)
                 (some false)
                 (cond (!(r176.2.2 == r177.2.2))
                  (some false)
                  (cond (r176.1 != r177.1)
                   (some false)
                   (cond (r176.2.1 != r177.2.1)
                    (some false)
                    (cond (!(r178.2 == r179.2))
                     (some false)
                     (cond (!(r178.1 == r179.1))
                      (some false)
                      (cond r178.2
                       (cond (!r176.2.2)
                        (some false)
                        (cond r178.2
                         (cond r178.1
                          ((impl_DriftOf k (r175.1, (w64 (r175.2.1 + r175.2.2)), r175.2.2)).bind fun r181 =>
                           (impl_DriftOf k (r175.1, r175.2.1, (w64 (3 * r175.2.2)))).bind fun r182 =>
                           cond (!r181.2.2)
                           (some false)
                           (cond (!r182.2.2)
                            (some false)
                            (cond (r181.1 != r176.1)
                             (some false)
                             (cond (r181.2.1 != r176.2.1)
                              (some false)
                              (cond (r182.1 != (w64 (3 * r176.1)))
                               (some false)
                               (cond (r182.2.1 != (w64 (3 * r176.2.1)))
                                (some false)
                                (cond (r176.1 == 0)
                                 (cond (r176.2.1 == 0)
                                  (some false)
                                  (some true))
                                 (some true))))))))
                          (some true))
                         (some true)))
                       (cond r178.2
                        (cond r178.1
                         ((impl_DriftOf k (r175.1, (w64 (r175.2.1 + r175.2.2)), r175.2.2)).bind fun r183 =>
                          (impl_DriftOf k (r175.1, r175.2.1, (w64 (3 * r175.2.2)))).bind fun r184 =>
                          cond (!r183.2.2)
                          (some false)
                          (cond (!r184.2.2)
                           (some false)
                           (cond (r183.1 != r176.1)
                            (some false)
                            (cond (r183.2.1 != r176.2.1)
                             (some false)
                             (cond (r184.1 != (w64 (3 * r176.1)))
                              (some false)
                              (cond (r184.2.1 != (w64 (3 * r176.2.1)))
                               (some false)
                               (cond (r176.1 == 0)
                                (cond (r176.2.1 == 0)
                                 (some false)
                                 (some true))
                                (some true))))))))
                         (some true))
                        (some true))))))))))))
             ((spec_DrawStepPlain k more).bind fun r185 =>
              (impl_StepPlain k r185).bind fun r186 =>
              (spec_StepPlain k r185).bind fun r187 =>
              (spec_DrawIsHighway k more).bind fun r188 =>
              (impl_DriftOf k r188).bind fun r189 =>
              (spec_DriftOf k r188).bind fun r190 =>
              (impl_IsHighway k r188).bind fun r191 =>
              (spec_IsHighway k r188).bind fun r192 =>
              cond (!(r186.2 == r187.2))
              (some false)
              ((laws_dPlain k (r186.1, r187.1)).bind fun r193 =>
               cond (!r193)
               (some false)
               (cond (!(r189.2.2 == r190.2.2))
                (some false)
                (cond (r189.1 != r190.1)
                 (some false)
                 (cond (r189.2.1 != r190.2.1)
                  (some false)
                  (cond (!(r191.2 == r192.2))
                   (some false)
                   (cond (!(r191.1 == r192.1))
                    (some false)
                    (cond r191.2
                     (cond (!r189.2.2)
                      (some false)
                      (cond r191.2
                       (cond r191.1
                        ((impl_DriftOf k (r188.1, (w64 (r188.2.1 + r188.2.2)), r188.2.2)).bind fun r194 =>
                         (impl_DriftOf k (r188.1, r188.2.1, (w64 (3 * r188.2.2)))).bind fun r195 =>
                         cond (!r194.2.2)
                         (some false)
                         (cond (!r195.2.2)
                          (some false)
                          (cond (r194.1 != r189.1)
                           (some false)
                           (cond (r194.2.1 != r189.2.1)
                            (some false)
                            (cond (r195.1 != (w64 (3 * r189.1)))
                             (some false)
                             (cond (r195.2.1 != (w64 (3 * r189.2.1)))
                              (some false)
                              (cond (r189.1 == 0)
                               (cond (r189.2.1 == 0)
                                (some false)
                                (some true))
                               (some true))))))))
                        (some true))
                       (some true)))
                     (cond r191.2
                      (cond r191.1
                       ((impl_DriftOf k (r188.1, (w64 (r188.2.1 + r188.2.2)), r188.2.2)).bind fun r196 =>
                        (impl_DriftOf k (r188.1, r188.2.1, (w64 (3 * r188.2.2)))).bind fun r197 =>
                        cond (!r196.2.2)
                        (some false)
                        (cond (!r197.2.2)
                         (some false)
                         (cond (r196.1 != r189.1)
                          (some false)
                          (cond (r196.2.1 != r189.2.1)
                           (some false)
                           (cond (r197.1 != (w64 (3 * r189.1)))
                            (some false)
                            (cond (r197.2.1 != (w64 (3 * r189.2.1)))
                             (some false)
                             (cond (r189.1 == 0)
                              (cond (r189.2.1 == 0)
                               (some false)
                               (some true))
                              (some true))))))))
                       (some true))
                      (some true))))))))))))))))))))) := by kernel_rfl
theorem laws_big.eq (k : Nat) (code : List Int) (more : List Int) : laws_big (k + 1) (code, more) =
  cond (decide ((code.length : Int) > 1048576))
  (some true)
  (some (decide ((more.length : Int) > (w64 (1048576 - (code.length : Int)))))) := by kernel_rfl
theorem spec_DrawPlainAfter.eq (k : Nat) (code : List Int) : spec_DrawPlainAfter (k + 1) code =
  (spec_l1Cur_plain k (code, 0, 0)).bind fun r1 =>
  (spec_l1Cur_going k r1.2).bind fun r2 =>
  some (r1.1, r2.1) := by kernel_rfl
end Go.Proofs.YtplamonjnlgomaaGreatDoorS
