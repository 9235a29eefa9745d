/- What each function computes (printed by wip/sim/gen.py). -/
import Derived.Test.YtmdgodjcfhimbaaGreatDoorTab
namespace Go.Proofs.YtmdgodjcfhimbaaGreatDoorS
open Go Go.Proofs
set_option maxRecDepth 100000
set_option linter.unusedVariables false
theorem laws_FnStepsUndone.eq (k : Nat) (code : List Int) (more : List Int) : laws_FnStepsUndone (k + 1) (code, more) =
  (laws_big k (code, more)).bind fun r1 =>
  cond r1
  (some true)
  ((spec_DrawStepWorld k code).bind fun r2 =>
   (impl_StepWorld k r2).bind fun r3 =>
   (spec_StepWorld k r2).bind fun r4 =>
   (impl_StepBack k r2).bind fun r5 =>
   (spec_StepBack k r2).bind fun r6 =>
   (impl_CountColours k r2).bind fun r7 =>
   (spec_CountColours k r2).bind fun r8 =>
   cond (!(r3.2 == r4.2))
   (some false)
   (cond (!((r3.1.1 == r4.1.1) && ((r3.1.2.1 == r4.1.2.1) && ((r3.1.2.2.1 == r4.1.2.2.1) && ((r3.1.2.2.2.1 == r4.1.2.2.2.1) && ((r3.1.2.2.2.2.1 == r4.1.2.2.2.2.1) && ((r3.1.2.2.2.2.2.1 == r4.1.2.2.2.2.2.1) && ((r3.1.2.2.2.2.2.2 == r4.1.2.2.2.2.2.2) && true))))))))
    (some false)
    (cond (!(r5.2 == r6.2))
     (some false)
     (cond (!((r5.1.1 == r6.1.1) && ((r5.1.2.1 == r6.1.2.1) && ((r5.1.2.2.1 == r6.1.2.2.1) && ((r5.1.2.2.2.1 == r6.1.2.2.2.1) && ((r5.1.2.2.2.2.1 == r6.1.2.2.2.2.1) && ((r5.1.2.2.2.2.2.1 == r6.1.2.2.2.2.2.1) && ((r5.1.2.2.2.2.2.2 == r6.1.2.2.2.2.2.2) && true))))))))
      (some false)
      (cond (!(r7.2 == r8.2))
       (some false)
       ((laws_kSame k (r7.1, r8.1)).bind fun r9 =>
        cond (!r9)
        (some false)
        ((impl_IsWorld k r2).bind fun r10 =>
         cond (!(r3.2 == r10))
         (some false)
         ((impl_IsWorld k r2).bind fun r11 =>
          (spec_IsWorld k r2).bind fun r12 =>
          cond (!(r11 == r12))
          (some false)
          (cond (!(r5.2 == r3.2))
           (some false)
           (cond (!(r7.2 == r3.2))
            (some false)
            (cond r3.2
             ((impl_StepBack k r3.1).bind fun r13 =>
              (impl_StepWorld k r5.1).bind fun r14 =>
              (impl_ColourSum k r2).bind fun r15 =>
              (impl_ColourSum k r3.1).bind fun r16 =>
              (impl_TurnsAfter k (r2, 1)).bind fun r17 =>
              (impl_ColourAt k (r2, r2.2.2.2.2.1, r2.2.2.2.2.2.1)).bind fun r18 =>
              (impl_ColourAt k (r3.1, r2.2.2.2.2.1, r2.2.2.2.2.2.1)).bind fun r19 =>
              (impl_IsWorld k r3.1).bind fun r20 =>
              cond (!r20)
              (some false)
              ((impl_IsWorld k r5.1).bind fun r21 =>
               cond (!r21)
               (some false)
               (cond (!r13.2)
                (some false)
                (cond (!((r13.1.1 == r2.1) && ((r13.1.2.1 == r2.2.1) && ((r13.1.2.2.1 == r2.2.2.1) && ((r13.1.2.2.2.1 == r2.2.2.2.1) && ((r13.1.2.2.2.2.1 == r2.2.2.2.2.1) && ((r13.1.2.2.2.2.2.1 == r2.2.2.2.2.2.1) && ((r13.1.2.2.2.2.2.2 == r2.2.2.2.2.2.2) && true))))))))
                 (some false)
                 (cond (!r14.2)
                  (some false)
                  (cond (!((r14.1.1 == r2.1) && ((r14.1.2.1 == r2.2.1) && ((r14.1.2.2.1 == r2.2.2.1) && ((r14.1.2.2.2.1 == r2.2.2.2.1) && ((r14.1.2.2.2.2.1 == r2.2.2.2.2.1) && ((r14.1.2.2.2.2.2.1 == r2.2.2.2.2.2.1) && ((r14.1.2.2.2.2.2.2 == r2.2.2.2.2.2.2) && true))))))))
                   (some false)
                   (cond (!r15.2)
                    (some false)
                    (cond (!r16.2)
                     (some false)
                     (cond ((r2.1.size : Int) != 0)
                      (cond (r16.1 != ((w64 (r15.1 + 1)).tmod (r2.1.size : Int)))
                       (some false)
                       (cond (!r17.2)
                        (some false)
                        (cond (!r18.2)
                         (some false)
                         (cond (((decide ((0 : Int) ≤ (w64 (r18.1 + 1)))) && (decide ((w64 (r18.1 + 1)) ≤ (r2.1.size : Int)))) && ((decide ((0 : Int) ≤ r18.1)) && (decide (r18.1 ≤ (w64 (r18.1 + 1))))))
                          (cond (!(strEq r17.1 (r2.1.extract r18.1.toNat ((w64 (r18.1 + 1)).toNat))))
                           (some false)
                           (cond (!r19.2)
                            (some false)
                            (cond ((r2.1.size : Int) != 0)
                             (cond (r19.1 != ((w64 (r18.1 + 1)).tmod (r2.1.size : Int)))
                              (some false)
                              ((laws_kSum k r7.1).bind fun r22 =>
                               cond (r22 != (w64 (r2.2.1 * r2.2.2.1)))
                               (some false)
                               (cond ((r7.1.length : Int) != (r2.1.size : Int))
                                (some false)
                                (cond (strEq r17.1 (bs [82]))
                                 (cond (r3.1.2.2.2.2.2.2 != ((w64 (r2.2.2.2.2.2.2 + 1)).tmod 4))
                                  (some false)
                                  ((impl_BackWorld k r3.1).bind fun r23 =>
                                   (impl_StepWorld k r23.1).bind fun r24 =>
                                   (impl_BackWorld k r2).bind fun r25 =>
                                   cond (!r23.2)
                                   (some false)
                                   (cond (!r24.2)
                                    (some false)
                                    (cond (!r25.2)
                                     (some false)
                                     (cond (!((r24.1.1 == r25.1.1) && ((r24.1.2.1 == r25.1.2.1) && ((r24.1.2.2.1 == r25.1.2.2.1) && ((r24.1.2.2.2.1 == r25.1.2.2.2.1) && ((r24.1.2.2.2.2.1 == r25.1.2.2.2.2.1) && ((r24.1.2.2.2.2.2.1 == r25.1.2.2.2.2.2.1) && ((r24.1.2.2.2.2.2.2 == r25.1.2.2.2.2.2.2) && true))))))))
                                      (some false)
                                      ((spec_DrawWorldAfter k more).bind fun r26 =>
                                       (impl_WorldAfter k r26).bind fun r27 =>
                                       (spec_WorldAfter k r26).bind fun r28 =>
                                       (impl_WorldBefore k r26).bind fun r29 =>
                                       (spec_WorldBefore k r26).bind fun r30 =>
                                       (impl_TurnsAfter k r26).bind fun r31 =>
                                       (spec_TurnsAfter k r26).bind fun r32 =>
                                       cond (!(r27.2 == r28.2))
                                       (some false)
                                       (cond (!((r27.1.1 == r28.1.1) && ((r27.1.2.1 == r28.1.2.1) && ((r27.1.2.2.1 == r28.1.2.2.1) && ((r27.1.2.2.2.1 == r28.1.2.2.2.1) && ((r27.1.2.2.2.2.1 == r28.1.2.2.2.2.1) && ((r27.1.2.2.2.2.2.1 == r28.1.2.2.2.2.2.1) && ((r27.1.2.2.2.2.2.2 == r28.1.2.2.2.2.2.2) && true))))))))
                                        (some false)
                                        (cond (!(r29.2 == r30.2))
                                         (some false)
                                         (cond (!((r29.1.1 == r30.1.1) && ((r29.1.2.1 == r30.1.2.1) && ((r29.1.2.2.1 == r30.1.2.2.1) && ((r29.1.2.2.2.1 == r30.1.2.2.2.1) && ((r29.1.2.2.2.2.1 == r30.1.2.2.2.2.1) && ((r29.1.2.2.2.2.2.1 == r30.1.2.2.2.2.2.1) && ((r29.1.2.2.2.2.2.2 == r30.1.2.2.2.2.2.2) && true))))))))
                                          (some false)
                                          (cond (!(r31.2 == r32.2))
                                           (some false)
                                           (cond (!(strEq r31.1 r32.1))
                                            (some false)
                                            (cond (!(r29.2 == r27.2))
                                             (some false)
                                             (cond (!(r31.2 == r27.2))
                                              (some false)
                                              (cond r27.2
                                               ((impl_WorldBefore k (r27.1, r26.2)).bind fun r33 =>
                                                (impl_WorldAfter k (r29.1, r26.2)).bind fun r34 =>
                                                cond (!r33.2)
                                                (some false)
                                                (cond (!((r33.1.1 == r26.1.1) && ((r33.1.2.1 == r26.1.2.1) && ((r33.1.2.2.1 == r26.1.2.2.1) && ((r33.1.2.2.2.1 == r26.1.2.2.2.1) && ((r33.1.2.2.2.2.1 == r26.1.2.2.2.2.1) && ((r33.1.2.2.2.2.2.1 == r26.1.2.2.2.2.2.1) && ((r33.1.2.2.2.2.2.2 == r26.1.2.2.2.2.2.2) && true))))))))
                                                 (some false)
                                                 (cond (!r34.2)
                                                  (some false)
                                                  (cond (!((r34.1.1 == r26.1.1) && ((r34.1.2.1 == r26.1.2.1) && ((r34.1.2.2.1 == r26.1.2.2.1) && ((r34.1.2.2.2.1 == r26.1.2.2.2.1) && ((r34.1.2.2.2.2.1 == r26.1.2.2.2.2.1) && ((r34.1.2.2.2.2.2.1 == r26.1.2.2.2.2.2.1) && ((r34.1.2.2.2.2.2.2 == r26.1.2.2.2.2.2.2) && true))))))))
                                                   (some false)
                                                   (cond ((r31.1.size : Int) != r26.2)
                                                    (some false)
                                                    (cond (decide (r26.2 > 0))
                                                     ((impl_WorldAfter k (r26.1, (w64 (r26.2 - 1)))).bind fun r35 =>
                                                      (impl_StepWorld k r35.1).bind fun r36 =>
                                                      cond (!r35.2)
                                                      (some false)
                                                      (cond (!r36.2)
                                                       (some false)
                                                       (cond (!((r36.1.1 == r27.1.1) && ((r36.1.2.1 == r27.1.2.1) && ((r36.1.2.2.1 == r27.1.2.2.1) && ((r36.1.2.2.2.1 == r27.1.2.2.2.1) && ((r36.1.2.2.2.2.1 == r27.1.2.2.2.2.1) && ((r36.1.2.2.2.2.2.1 == r27.1.2.2.2.2.2.1) && ((r36.1.2.2.2.2.2.2 == r27.1.2.2.2.2.2.2) && true))))))))
                                                        (some false)
                                                        (some true))))
                                                     (some true)))))))
                                               (some true)))))))))))))))
                                 (cond (strEq r17.1 (bs [85]))
                                  (cond (r3.1.2.2.2.2.2.2 != ((w64 (r2.2.2.2.2.2.2 + 2)).tmod 4))
                                   (some false)
                                   ((impl_BackWorld k r3.1).bind fun r37 =>
                                    (impl_StepWorld k r37.1).bind fun r38 =>
                                    (impl_BackWorld k r2).bind fun r39 =>
                                    cond (!r37.2)
                                    (some false)
                                    (cond (!r38.2)
                                     (some false)
                                     (cond (!r39.2)
                                      (some false)
                                      (cond (!((r38.1.1 == r39.1.1) && ((r38.1.2.1 == r39.1.2.1) && ((r38.1.2.2.1 == r39.1.2.2.1) && ((r38.1.2.2.2.1 == r39.1.2.2.2.1) && ((r38.1.2.2.2.2.1 == r39.1.2.2.2.2.1) && ((r38.1.2.2.2.2.2.1 == r39.1.2.2.2.2.2.1) && ((r38.1.2.2.2.2.2.2 == r39.1.2.2.2.2.2.2) && true))))))))
                                       (some false)
                                       ((spec_DrawWorldAfter k more).bind fun r40 =>
                                        (impl_WorldAfter k r40).bind fun r41 =>
                                        (spec_WorldAfter k r40).bind fun r42 =>
                                        (impl_WorldBefore k r40).bind fun r43 =>
                                        (spec_WorldBefore k r40).bind fun r44 =>
                                        (impl_TurnsAfter k r40).bind fun r45 =>
                                        (spec_TurnsAfter k r40).bind fun r46 =>
                                        cond (!(r41.2 == r42.2))
                                        (some false)
                                        (cond (!((r41.1.1 == r42.1.1) && ((r41.1.2.1 == r42.1.2.1) && ((r41.1.2.2.1 == r42.1.2.2.1) && ((r41.1.2.2.2.1 == r42.1.2.2.2.1) && ((r41.1.2.2.2.2.1 == r42.1.2.2.2.2.1) && ((r41.1.2.2.2.2.2.1 == r42.1.2.2.2.2.2.1) && ((r41.1.2.2.2.2.2.2 == r42.1.2.2.2.2.2.2) && true))))))))
                                         (some false)
                                         (cond (!(r43.2 == r44.2))
                                          (some false)
                                          (cond (!((r43.1.1 == r44.1.1) && ((r43.1.2.1 == r44.1.2.1) && ((r43.1.2.2.1 == r44.1.2.2.1) && ((r43.1.2.2.2.1 == r44.1.2.2.2.1) && ((r43.1.2.2.2.2.1 == r44.1.2.2.2.2.1) && ((r43.1.2.2.2.2.2.1 == r44.1.2.2.2.2.2.1) && ((r43.1.2.2.2.2.2.2 == r44.1.2.2.2.2.2.2) && true))))))))
                                           (some false)
                                           (cond (!(r45.2 == r46.2))
                                            (some false)
                                            (cond (!(strEq r45.1 r46.1))
                                             (some false)
                                             (cond (!(r43.2 == r41.2))
                                              (some false)
                                              (cond (!(r45.2 == r41.2))
                                               (some false)
                                               (cond r41.2
                                                ((impl_WorldBefore k (r41.1, r40.2)).bind fun r47 =>
                                                 (impl_WorldAfter k (r43.1, r40.2)).bind fun r48 =>
                                                 cond (!r47.2)
                                                 (some false)
                                                 (cond (!((r47.1.1 == r40.1.1) && ((r47.1.2.1 == r40.1.2.1) && ((r47.1.2.2.1 == r40.1.2.2.1) && ((r47.1.2.2.2.1 == r40.1.2.2.2.1) && ((r47.1.2.2.2.2.1 == r40.1.2.2.2.2.1) && ((r47.1.2.2.2.2.2.1 == r40.1.2.2.2.2.2.1) && ((r47.1.2.2.2.2.2.2 == r40.1.2.2.2.2.2.2) && true))))))))
                                                  (some false)
                                                  (cond (!r48.2)
                                                   (some false)
                                                   (cond (!((r48.1.1 == r40.1.1) && ((r48.1.2.1 == r40.1.2.1) && ((r48.1.2.2.1 == r40.1.2.2.1) && ((r48.1.2.2.2.1 == r40.1.2.2.2.1) && ((r48.1.2.2.2.2.1 == r40.1.2.2.2.2.1) && ((r48.1.2.2.2.2.2.1 == r40.1.2.2.2.2.2.1) && ((r48.1.2.2.2.2.2.2 == r40.1.2.2.2.2.2.2) && true))))))))
                                                    (some false)
                                                    (cond ((r45.1.size : Int) != r40.2)
                                                     (some false)
                                                     (cond (decide (r40.2 > 0))
                                                      ((impl_WorldAfter k (r40.1, (w64 (r40.2 - 1)))).bind fun r49 =>
                                                       (impl_StepWorld k r49.1).bind fun r50 =>
                                                       cond (!r49.2)
                                                       (some false)
                                                       (cond (!r50.2)
                                                        (some false)
                                                        (cond (!((r50.1.1 == r41.1.1) && ((r50.1.2.1 == r41.1.2.1) && ((r50.1.2.2.1 == r41.1.2.2.1) && ((r50.1.2.2.2.1 == r41.1.2.2.2.1) && ((r50.1.2.2.2.2.1 == r41.1.2.2.2.2.1) && ((r50.1.2.2.2.2.2.1 == r41.1.2.2.2.2.2.1) && ((r50.1.2.2.2.2.2.2 == r41.1.2.2.2.2.2.2) && true))))))))
                                                         (some false)
                                                         (some true))))
                                                      (some true)))))))
                                                (some true)))))))))))))))
                                  (cond (strEq r17.1 (bs [76]))
                                   (cond (r3.1.2.2.2.2.2.2 != ((w64 (r2.2.2.2.2.2.2 + 3)).tmod 4))
                                    (some false)
                                    ((impl_BackWorld k r3.1).bind fun r51 =>
                                     (impl_StepWorld k r51.1).bind fun r52 =>
                                     (impl_BackWorld k r2).bind fun r53 =>
                                     cond (!r51.2)
                                     (some false)
                                     (cond (!r52.2)
                                      (some false)
                                      (cond (!r53.2)
                                       (some false)
                                       (cond (!((r52.1.1 == r53.1.1) && ((r52.1.2.1 == r53.1.2.1) && ((r52.1.2.2.1 == r53.1.2.2.1) && ((r52.1.2.2.2.1 == r53.1.2.2.2.1) && ((r52.1.2.2.2.2.1 == r53.1.2.2.2.2.1) && ((r52.1.2.2.2.2.2.1 == r53.1.2.2.2.2.2.1) && ((r52.1.2.2.2.2.2.2 == r53.1.2.2.2.2.2.2) && true))))))))
                                        (some false)
                                        ((spec_DrawWorldAfter k more).bind fun r54 =>
                                         (impl_WorldAfter k r54).bind fun r55 =>
                                         (spec_WorldAfter k r54).bind fun r56 =>
                                         (impl_WorldBefore k r54).bind fun r57 =>
                                         (spec_WorldBefore k r54).bind fun r58 =>
                                         (impl_TurnsAfter k r54).bind fun r59 =>
                                         (spec_TurnsAfter k r54).bind fun r60 =>
                                         cond (!(r55.2 == r56.2))
                                         (some false)
                                         (cond (!((r55.1.1 == r56.1.1) && ((r55.1.2.1 == r56.1.2.1) && ((r55.1.2.2.1 == r56.1.2.2.1) && ((r55.1.2.2.2.1 == r56.1.2.2.2.1) && ((r55.1.2.2.2.2.1 == r56.1.2.2.2.2.1) && ((r55.1.2.2.2.2.2.1 == r56.1.2.2.2.2.2.1) && ((r55.1.2.2.2.2.2.2 == r56.1.2.2.2.2.2.2) && true))))))))
                                          (some false)
                                          (cond (!(r57.2 == r58.2))
                                           (some false)
                                           (cond (!((r57.1.1 == r58.1.1) && ((r57.1.2.1 == r58.1.2.1) && ((r57.1.2.2.1 == r58.1.2.2.1) && ((r57.1.2.2.2.1 == r58.1.2.2.2.1) && ((r57.1.2.2.2.2.1 == r58.1.2.2.2.2.1) && ((r57.1.2.2.2.2.2.1 == r58.1.2.2.2.2.2.1) && ((r57.1.2.2.2.2.2.2 == r58.1.2.2.2.2.2.2) && true))))))))
                                            (some false)
                                            (cond (!(r59.2 == r60.2))
                                             (some false)
                                             (cond (!(strEq r59.1 r60.1))
                                              (some false)
                                              (cond (!(r57.2 == r55.2))
                                               (some false)
                                               (cond (!(r59.2 == r55.2))
                                                (some false)
                                                (cond r55.2
                                                 ((impl_WorldBefore k (r55.1, r54.2)).bind fun r61 =>
                                                  (impl_WorldAfter k (r57.1, r54.2)).bind fun r62 =>
                                                  cond (!r61.2)
                                                  (some false)
                                                  (cond (!((r61.1.1 == r54.1.1) && ((r61.1.2.1 == r54.1.2.1) && ((r61.1.2.2.1 == r54.1.2.2.1) && ((r61.1.2.2.2.1 == r54.1.2.2.2.1) && ((r61.1.2.2.2.2.1 == r54.1.2.2.2.2.1) && ((r61.1.2.2.2.2.2.1 == r54.1.2.2.2.2.2.1) && ((r61.1.2.2.2.2.2.2 == r54.1.2.2.2.2.2.2) && true))))))))
                                                   (some false)
                                                   (cond (!r62.2)
                                                    (some false)
                                                    (cond (!((r62.1.1 == r54.1.1) && ((r62.1.2.1 == r54.1.2.1) && ((r62.1.2.2.1 == r54.1.2.2.1) && ((r62.1.2.2.2.1 == r54.1.2.2.2.1) && ((r62.1.2.2.2.2.1 == r54.1.2.2.2.2.1) && ((r62.1.2.2.2.2.2.1 == r54.1.2.2.2.2.2.1) && ((r62.1.2.2.2.2.2.2 == r54.1.2.2.2.2.2.2) && true))))))))
                                                     (some false)
                                                     (cond ((r59.1.size : Int) != r54.2)
                                                      (some false)
                                                      (cond (decide (r54.2 > 0))
                                                       ((impl_WorldAfter k (r54.1, (w64 (r54.2 - 1)))).bind fun r63 =>
                                                        (impl_StepWorld k r63.1).bind fun r64 =>
                                                        cond (!r63.2)
                                                        (some false)
                                                        (cond (!r64.2)
                                                         (some false)
                                                         (cond (!((r64.1.1 == r55.1.1) && ((r64.1.2.1 == r55.1.2.1) && ((r64.1.2.2.1 == r55.1.2.2.1) && ((r64.1.2.2.2.1 == r55.1.2.2.2.1) && ((r64.1.2.2.2.2.1 == r55.1.2.2.2.2.1) && ((r64.1.2.2.2.2.2.1 == r55.1.2.2.2.2.2.1) && ((r64.1.2.2.2.2.2.2 == r55.1.2.2.2.2.2.2) && true))))))))
                                                          (some false)
                                                          (some true))))
                                                       (some true)))))))
                                                 (some true)))))))))))))))
                                   (cond (r3.1.2.2.2.2.2.2 != ((w64 (r2.2.2.2.2.2.2 + 0)).tmod 4))
                                    (some false)
                                    ((impl_BackWorld k r3.1).bind fun r65 =>
                                     (impl_StepWorld k r65.1).bind fun r66 =>
                                     (impl_BackWorld k r2).bind fun r67 =>
                                     cond (!r65.2)
                                     (some false)
                                     (cond (!r66.2)
                                      (some false)
                                      (cond (!r67.2)
                                       (some false)
                                       (cond (!((r66.1.1 == r67.1.1) && ((r66.1.2.1 == r67.1.2.1) && ((r66.1.2.2.1 == r67.1.2.2.1) && ((r66.1.2.2.2.1 == r67.1.2.2.2.1) && ((r66.1.2.2.2.2.1 == r67.1.2.2.2.2.1) && ((r66.1.2.2.2.2.2.1 == r67.1.2.2.2.2.2.1) && ((r66.1.2.2.2.2.2.2 == r67.1.2.2.2.2.2.2) && true))))))))
                                        (some false)
                                        ((spec_DrawWorldAfter k more).bind fun r68 =>
                                         (impl_WorldAfter k r68).bind fun r69 =>
                                         (spec_WorldAfter k r68).bind fun r70 =>
                                         (impl_WorldBefore k r68).bind fun r71 =>
                                         (spec_WorldBefore k r68).bind fun r72 =>
                                         (impl_TurnsAfter k r68).bind fun r73 =>
                                         (spec_TurnsAfter k r68).bind fun r74 =>
                                         cond (!(r69.2 == r70.2))
                                         (some false)
                                         (cond (!((r69.1.1 == r70.1.1) && ((r69.1.2.1 == r70.1.2.1) && ((r69.1.2.2.1 == r70.1.2.2.1) && ((r69.1.2.2.2.1 == r70.1.2.2.2.1) && ((r69.1.2.2.2.2.1 == r70.1.2.2.2.2.1) && ((r69.1.2.2.2.2.2.1 == r70.1.2.2.2.2.2.1) && ((r69.1.2.2.2.2.2.2 == r70.1.2.2.2.2.2.2) && true))))))))
                                          (some false)
                                          (cond (!(r71.2 == r72.2))
                                           (some false)
                                           (cond (!((r71.1.1 == r72.1.1) && ((r71.1.2.1 == r72.1.2.1) && ((r71.1.2.2.1 == r72.1.2.2.1) && ((r71.1.2.2.2.1 == r72.1.2.2.2.1) && ((r71.1.2.2.2.2.1 == r72.1.2.2.2.2.1) && ((r71.1.2.2.2.2.2.1 == r72.1.2.2.2.2.2.1) && ((r71.1.2.2.2.2.2.2 == r72.1.2.2.2.2.2.2) && true))))))))
                                            (some false)
                                            (cond (!(r73.2 == r74.2))
                                             (some false)
                                             (cond (!(strEq r73.1 r74.1))
                                              (some false)
                                              (cond (!(r71.2 == r69.2))
                                               (some false)
                                               (cond (!(r73.2 == r69.2))
                                                (some false)
                                                (cond r69.2
                                                 ((impl_WorldBefore k (r69.1, r68.2)).bind fun r75 =>
                                                  (impl_WorldAfter k (r71.1, r68.2)).bind fun r76 =>
                                                  cond (!r75.2)
                                                  (some false)
                                                  (cond (!((r75.1.1 == r68.1.1) && ((r75.1.2.1 == r68.1.2.1) && ((r75.1.2.2.1 == r68.1.2.2.1) && ((r75.1.2.2.2.1 == r68.1.2.2.2.1) && ((r75.1.2.2.2.2.1 == r68.1.2.2.2.2.1) && ((r75.1.2.2.2.2.2.1 == r68.1.2.2.2.2.2.1) && ((r75.1.2.2.2.2.2.2 == r68.1.2.2.2.2.2.2) && true))))))))
                                                   (some false)
                                                   (cond (!r76.2)
                                                    (some false)
                                                    (cond (!((r76.1.1 == r68.1.1) && ((r76.1.2.1 == r68.1.2.1) && ((r76.1.2.2.1 == r68.1.2.2.1) && ((r76.1.2.2.2.1 == r68.1.2.2.2.1) && ((r76.1.2.2.2.2.1 == r68.1.2.2.2.2.1) && ((r76.1.2.2.2.2.2.1 == r68.1.2.2.2.2.2.1) && ((r76.1.2.2.2.2.2.2 == r68.1.2.2.2.2.2.2) && true))))))))
                                                     (some false)
                                                     (cond ((r73.1.size : Int) != r68.2)
                                                      (some false)
                                                      (cond (decide (r68.2 > 0))
                                                       ((impl_WorldAfter k (r68.1, (w64 (r68.2 - 1)))).bind fun r77 =>
                                                        (impl_StepWorld k r77.1).bind fun r78 =>
                                                        cond (!r77.2)
                                                        (some false)
                                                        (cond (!r78.2)
                                                         (some false)
                                                         (cond (!((r78.1.1 == r69.1.1) && ((r78.1.2.1 == r69.1.2.1) && ((r78.1.2.2.1 == r69.1.2.2.1) && ((r78.1.2.2.2.1 == r69.1.2.2.2.1) && ((r78.1.2.2.2.2.1 == r69.1.2.2.2.2.1) && ((r78.1.2.2.2.2.2.1 == r69.1.2.2.2.2.2.1) && ((r78.1.2.2.2.2.2.2 == r69.1.2.2.2.2.2.2) && true))))))))
                                                          (some false)
                                                          (some true))))
                                                       (some true)))))))
                                                 (some true)))))))))))))))))))))
                             (none))))
                          (none)))))
                      (none))))))))))
             ((spec_DrawWorldAfter k more).bind fun r79 =>
              (impl_WorldAfter k r79).bind fun r80 =>
              (spec_WorldAfter k r79).bind fun r81 =>
              (impl_WorldBefore k r79).bind fun r82 =>
              (spec_WorldBefore k r79).bind fun r83 =>
              (impl_TurnsAfter k r79).bind fun r84 =>
              (spec_TurnsAfter k r79).bind fun r85 =>
              cond (!(r80.2 == r81.2))
              (some false)
              (cond (!((r80.1.1 == r81.1.1) && ((r80.1.2.1 == r81.1.2.1) && ((r80.1.2.2.1 == r81.1.2.2.1) && ((r80.1.2.2.2.1 == r81.1.2.2.2.1) && ((r80.1.2.2.2.2.1 == r81.1.2.2.2.2.1) && ((r80.1.2.2.2.2.2.1 == r81.1.2.2.2.2.2.1) && ((r80.1.2.2.2.2.2.2 == r81.1.2.2.2.2.2.2) && true))))))))
               (some false)
               (cond (!(r82.2 == r83.2))
                (some false)
                (cond (!((r82.1.1 == r83.1.1) && ((r82.1.2.1 == r83.1.2.1) && ((r82.1.2.2.1 == r83.1.2.2.1) && ((r82.1.2.2.2.1 == r83.1.2.2.2.1) && ((r82.1.2.2.2.2.1 == r83.1.2.2.2.2.1) && ((r82.1.2.2.2.2.2.1 == r83.1.2.2.2.2.2.1) && ((r82.1.2.2.2.2.2.2 == r83.1.2.2.2.2.2.2) && true))))))))
                 (some false)
                 (cond (!(r84.2 == r85.2))
                  (some false)
                  (cond (!(strEq r84.1 r85.1))
                   (some false)
                   (cond (!(r82.2 == r80.2))
                    (some false)
                    (cond (!(r84.2 == r80.2))
                     (some false)
                     (cond r80.2
                      ((impl_WorldBefore k (r80.1, r79.2)).bind fun r86 =>
                       (impl_WorldAfter k (r82.1, r79.2)).bind fun r87 =>
                       cond (!r86.2)
                       (some false)
                       (cond (!((r86.1.1 == r79.1.1) && ((r86.1.2.1 == r79.1.2.1) && ((r86.1.2.2.1 == r79.1.2.2.1) && ((r86.1.2.2.2.1 == r79.1.2.2.2.1) && ((r86.1.2.2.2.2.1 == r79.1.2.2.2.2.1) && ((r86.1.2.2.2.2.2.1 == r79.1.2.2.2.2.2.1) && ((r86.1.2.2.2.2.2.2 == r79.1.2.2.2.2.2.2) && true))))))))
                        (some false)
                        (cond (!r87.2)
                         (some false)
                         (cond (!((r87.1.1 == r79.1.1) && ((r87.1.2.1 == r79.1.2.1) && ((r87.1.2.2.1 == r79.1.2.2.1) && ((r87.1.2.2.2.1 == r79.1.2.2.2.1) && ((r87.1.2.2.2.2.1 == r79.1.2.2.2.2.1) && ((r87.1.2.2.2.2.2.1 == r79.1.2.2.2.2.2.1) && ((r87.1.2.2.2.2.2.2 == r79.1.2.2.2.2.2.2) && true))))))))
                          (some false)
                          (cond ((r84.1.size : Int) != r79.2)
                           (some false)
                           (cond (decide (r79.2 > 0))
                            ((impl_WorldAfter k (r79.1, (w64 (r79.2 - 1)))).bind fun r88 =>
                             (impl_StepWorld k r88.1).bind fun r89 =>
                             cond (!r88.2)
                             (some false)
                             (cond (!r89.2)
                              (some false)
                              (cond (!((r89.1.1 == r80.1.1) && ((r89.1.2.1 == r80.1.2.1) && ((r89.1.2.2.1 == r80.1.2.2.1) && ((r89.1.2.2.2.1 == r80.1.2.2.2.1) && ((r89.1.2.2.2.2.1 == r80.1.2.2.2.2.1) && ((r89.1.2.2.2.2.2.1 == r80.1.2.2.2.2.2.1) && ((r89.1.2.2.2.2.2.2 == r80.1.2.2.2.2.2.2) && true))))))))
                               (some false)
                               (some true))))
                            (some true)))))))
                      (some true))))))))))))))))))))) := by kernel_rfl
theorem spec_DrawStepWorld.eq (k : Nat) (code : List Int) : spec_DrawStepWorld (k + 1) code =
  (spec_DrawIsWorld k code).bind fun r1 =>
  some r1 := by kernel_rfl
theorem spec_DrawIsWorld.eq (k : Nat) (code : List Int) : spec_DrawIsWorld (k + 1) code =
  (spec_l1Cur_world k (code, 0, 0)).bind fun r1 =>
  some r1.1 := by kernel_rfl
theorem impl_StepWorld.eq (k : Nat) (w_Rule : ByteArray) (w_Width : Int) (w_Height : Int) (w_Cells : ByteArray) (w_X : Int) (w_Y : Int) (w_Way : Int) : impl_StepWorld (k + 1) (w_Rule, w_Width, w_Height, w_Cells, w_X, w_Y, w_Way) =
  (impl_WorldAfter k ((w_Rule, w_Width, w_Height, w_Cells, w_X, w_Y, w_Way), 1)).bind fun r1 =>
  some r1 := by kernel_rfl
theorem spec_StepWorld.eq (k : Nat) (w_Rule : ByteArray) (w_Width : Int) (w_Height : Int) (w_Cells : ByteArray) (w_X : Int) (w_Y : Int) (w_Way : Int) : spec_StepWorld (k + 1) (w_Rule, w_Width, w_Height, w_Cells, w_X, w_Y, w_Way) =
  (spec_woGood k (w_Rule, w_Width, w_Height, w_Cells, w_X, w_Y, w_Way)).bind fun r1 =>
  cond (!r1)
  (some ((ByteArray.empty, 0, 0, ByteArray.empty, 0, 0, 0), false))
  ((spec_woStep k (w_Rule, w_Width, w_Height, w_Cells, w_X, w_Y, w_Way)).bind fun r2 =>
   some (r2, true)) := by kernel_rfl
theorem impl_StepBack.eq (k : Nat) (w_Rule : ByteArray) (w_Width : Int) (w_Height : Int) (w_Cells : ByteArray) (w_X : Int) (w_Y : Int) (w_Way : Int) : impl_StepBack (k + 1) (w_Rule, w_Width, w_Height, w_Cells, w_X, w_Y, w_Way) =
  (impl_WorldBefore k ((w_Rule, w_Width, w_Height, w_Cells, w_X, w_Y, w_Way), 1)).bind fun r1 =>
  some r1 := by kernel_rfl
theorem impl_WorldBefore.eq (k : Nat) (w_Rule : ByteArray) (w_Width : Int) (w_Height : Int) (w_Cells : ByteArray) (w_X : Int) (w_Y : Int) (w_Way : Int) (steps : Int) : impl_WorldBefore (k + 1) ((w_Rule, w_Width, w_Height, w_Cells, w_X, w_Y, w_Way), steps) =
  (impl_isGoing k ((w_Rule, w_Width, w_Height, w_Cells, w_X, w_Y, w_Way), steps)).bind fun r1 =>
  cond (!r1)
  (some ((ByteArray.empty, 0, 0, ByteArray.empty, 0, 0, 0), false))
  ((impl_WorldBefore_l k ((w_Rule, w_Width, w_Height, w_Cells, w_X, w_Y, w_Way), (ByteArray.empty, 0, 0, ByteArray.empty, 0, 0, 0), steps, 0)).bind fun r2 =>
   some (r2.1, true)) := by kernel_rfl
theorem impl_WorldBefore_l.eq (k : Nat) (w_Rule : ByteArray) (w_Width : Int) (w_Height : Int) (w_Cells : ByteArray) (w_X : Int) (w_Y : Int) (w_Way : Int) (t4_Rule : ByteArray) (t4_Width : Int) (t4_Height : Int) (t4_Cells : ByteArray) (t4_X : Int) (t4_Y : Int) (t4_Way : Int) (t11 : Int) (t12 : Int) : impl_WorldBefore_l (k + 1) ((w_Rule, w_Width, w_Height, w_Cells, w_X, w_Y, w_Way), (t4_Rule, t4_Width, t4_Height, t4_Cells, t4_X, t4_Y, t4_Way), t11, t12) =
  cond (decide (t12 < t11))
  ((impl_World_back k (w_Rule, w_Width, w_Height, w_Cells, w_X, w_Y, w_Way)).bind fun r1 =>
   impl_WorldBefore_l k (r1, (t4_Rule, t4_Width, t4_Height, t4_Cells, t4_X, t4_Y, t4_Way), t11, (w64 (t12 + 1))))
  (some ((w_Rule, w_Width, w_Height, w_Cells, w_X, w_Y, w_Way), (t4_Rule, t4_Width, t4_Height, t4_Cells, t4_X, t4_Y, t4_Way))) := by kernel_rfl
theorem impl_World_back.eq (k : Nat) (w_Rule : ByteArray) (w_Width : Int) (w_Height : Int) (w_Cells : ByteArray) (w_X : Int) (w_Y : Int) (w_Way : Int) : impl_World_back (k + 1) (w_Rule, w_Width, w_Height, w_Cells, w_X, w_Y, w_Way) =
  (impl_World_gone k ((w_Rule, w_Width, w_Height, w_Cells, w_X, w_Y, w_Way), (-1))).bind fun r1 =>
  (impl_World_colour k r1).bind fun r2 =>
  cond ((r1.1.size : Int) != 0)
  (cond (inB ((w64 ((w64 (r2 + (r1.1.size : Int))) - 1)).tmod (r1.1.size : Int)) r1.1.size)
   ((impl_quarters k (bt r1.1 (((w64 ((w64 (r2 + (r1.1.size : Int))) - 1)).tmod (r1.1.size : Int)).toNat))).bind fun r3 =>
    (impl_World_at k (r1.1, r1.2.1, r1.2.2.1, r1.2.2.2.1, r1.2.2.2.2.1, r1.2.2.2.2.2.1, ((w64 ((w64 (r1.2.2.2.2.2.2 + 4)) - r3)).tmod 4))).bind fun r4 =>
    (impl_painted k (r1.2.2.2.1, r4, ((w64 ((w64 (r2 + (r1.1.size : Int))) - 1)).tmod (r1.1.size : Int)))).bind fun r5 =>
    some (r1.1, r1.2.1, r1.2.2.1, r5, r1.2.2.2.2.1, r1.2.2.2.2.2.1, ((w64 ((w64 (r1.2.2.2.2.2.2 + 4)) - r3)).tmod 4)))
   (none))
  (none) := by kernel_rfl
theorem spec_StepBack.eq (k : Nat) (w_Rule : ByteArray) (w_Width : Int) (w_Height : Int) (w_Cells : ByteArray) (w_X : Int) (w_Y : Int) (w_Way : Int) : spec_StepBack (k + 1) (w_Rule, w_Width, w_Height, w_Cells, w_X, w_Y, w_Way) =
  (spec_woGood k (w_Rule, w_Width, w_Height, w_Cells, w_X, w_Y, w_Way)).bind fun r1 =>
  cond (!r1)
  (some ((ByteArray.empty, 0, 0, ByteArray.empty, 0, 0, 0), false))
  ((spec_woBack k (w_Rule, w_Width, w_Height, w_Cells, w_X, w_Y, w_Way)).bind fun r2 =>
   some (r2, true)) := by kernel_rfl
theorem spec_woBack.eq (k : Nat) (w_Rule : ByteArray) (w_Width : Int) (w_Height : Int) (w_Cells : ByteArray) (w_X : Int) (w_Y : Int) (w_Way : Int) : spec_woBack (k + 1) (w_Rule, w_Width, w_Height, w_Cells, w_X, w_Y, w_Way) =
  (spec_woGo k ((w_Rule, w_Width, w_Height, w_Cells, w_X, w_Y, w_Way), (-1))).bind fun r1 =>
  (spec_woColour k (r1.2, r1.2.2.2.2.2.1, r1.2.2.2.2.2.2.1)).bind fun r2 =>
  (spec_l1Mod k ((w64 (r2 - 1)), (r1.2.1.size : Int))).bind fun r3 =>
  (spec_woPaint k (r1.2, r1.2.2.2.2.2.1, r1.2.2.2.2.2.2.1, r3)).bind fun r4 =>
  cond (inB r3 r4.2.1.size)
  ((spec_woTurn k (bt r4.2.1 r3.toNat)).bind fun r5 =>
   (spec_l1Mod k ((w64 (r4.2.2.2.2.2.2.2 - r5)), 4)).bind fun r6 =>
   some (r4.2.1, r4.2.2.1, r4.2.2.2.1, r4.2.2.2.2.1, r4.2.2.2.2.2.1, r4.2.2.2.2.2.2.1, r6))
  (none) := by kernel_rfl
theorem spec_CountColours.eq (k : Nat) (w_Rule : ByteArray) (w_Width : Int) (w_Height : Int) (w_Cells : ByteArray) (w_X : Int) (w_Y : Int) (w_Way : Int) : spec_CountColours (k + 1) (w_Rule, w_Width, w_Height, w_Cells, w_X, w_Y, w_Way) =
  (spec_woGood k (w_Rule, w_Width, w_Height, w_Cells, w_X, w_Y, w_Way)).bind fun r1 =>
  cond (!r1)
  (some ([], false))
  (cond (((decide ((0 : Int) ≤ (w_Rule.size : Int))) && (decide ((w_Rule.size : Int) ≤ (w_Rule.size : Int)))) && (fits (w_Rule.size : Int).toNat 8))
   ((spec_CountColours_l k ((w_Rule, w_Width, w_Height, w_Cells, w_X, w_Y, w_Way), (List.replicate (w_Rule.size : Int).toNat 0), 0)).bind fun r2 =>
    some (r2, true))
   (none)) := by kernel_rfl
theorem spec_CountColours_l.eq (k : Nat) (w_Rule : ByteArray) (w_Width : Int) (w_Height : Int) (w_Cells : ByteArray) (w_X : Int) (w_Y : Int) (w_Way : Int) (out : List Int) (i : Int) : spec_CountColours_l (k + 1) ((w_Rule, w_Width, w_Height, w_Cells, w_X, w_Y, w_Way), out, i) =
  cond (decide (i < (w_Cells.size : Int)))
  (cond (inB i w_Cells.size)
   (cond (inB (w8 ((bt w_Cells i.toNat) - 48)) out.length)
    (cond (inB (w8 ((bt w_Cells i.toNat) - 48)) out.length)
     (spec_CountColours_l k ((w_Rule, w_Width, w_Height, w_Cells, w_X, w_Y, w_Way), (out.set ((w8 ((bt w_Cells i.toNat) - 48)).toNat) (w64 ((out.getD ((w8 ((bt w_Cells i.toNat) - 48)).toNat) default) + 1))), (w64 (i + 1))))
     (none))
    (none))
   (none))
  (some out) := by kernel_rfl
theorem laws_kSame.eq (k : Nat) (a : List Int) (b : List Int) : laws_kSame (k + 1) (a, b) =
  cond ((a.length : Int) != (b.length : Int))
  (some false)
  ((laws_kSame_l k (a, b, (a.length : Int), 0)).bind fun r1 =>
   r1.elim
   (fun r2 => some r2)
   (fun r3 => some true)) := by kernel_rfl
theorem laws_kSame_l.eq (k : Nat) (a : List Int) (b : List Int) (t12 : Int) (t13 : Int) : laws_kSame_l (k + 1) (a, b, t12, t13) =
  cond (decide (t13 < t12))
  (cond (inB t13 a.length)
   (cond (inB t13 b.length)
    (cond ((a.getD t13.toNat default) != (b.getD t13.toNat default))
     (some (.inl false))
     (laws_kSame_l k (a, b, t12, (w64 (t13 + 1)))))
    (none))
   (none))
  (some (.inr ())) := by kernel_rfl
theorem spec_IsWorld.eq (k : Nat) (w_Rule : ByteArray) (w_Width : Int) (w_Height : Int) (w_Cells : ByteArray) (w_X : Int) (w_Y : Int) (w_Way : Int) : spec_IsWorld (k + 1) (w_Rule, w_Width, w_Height, w_Cells, w_X, w_Y, w_Way) =
  (spec_woGood k (w_Rule, w_Width, w_Height, w_Cells, w_X, w_Y, w_Way)).bind fun r1 =>
  some r1 := by kernel_rfl
theorem impl_ColourSum.eq (k : Nat) (w_Rule : ByteArray) (w_Width : Int) (w_Height : Int) (w_Cells : ByteArray) (w_X : Int) (w_Y : Int) (w_Way : Int) : impl_ColourSum (k + 1) (w_Rule, w_Width, w_Height, w_Cells, w_X, w_Y, w_Way) =
  (impl_CountColours k (w_Rule, w_Width, w_Height, w_Cells, w_X, w_Y, w_Way)).bind fun r1 =>
  cond (!r1.2)
  (some (0, false))
  ((impl_ColourSum_l k (r1.1, 0, (), (r1.1.length : Int), 0)).bind fun r2 =>
   cond ((r2.1.length : Int) != 0)
   (some ((r2.2.tmod (r2.1.length : Int)), true))
   (none)) := by kernel_rfl
theorem impl_ColourSum_l.eq (k : Nat) (list : List Int) (all : Int) (t17 : Int) (t18 : Int) : impl_ColourSum_l (k + 1) (list, all, (), t17, t18) =
  cond (decide (t18 < t17))
  (cond (inB t18 list.length)
   (impl_ColourSum_l k (list, (w64 (all + (w64 (t18 * (list.getD t18.toNat default))))), (), t17, (w64 (t18 + 1))))
   (none))
  (some (list, all)) := by kernel_rfl
theorem impl_TurnsAfter.eq (k : Nat) (w_Rule : ByteArray) (w_Width : Int) (w_Height : Int) (w_Cells : ByteArray) (w_X : Int) (w_Y : Int) (w_Way : Int) (steps : Int) : impl_TurnsAfter (k + 1) ((w_Rule, w_Width, w_Height, w_Cells, w_X, w_Y, w_Way), steps) =
  (impl_isGoing k ((w_Rule, w_Width, w_Height, w_Cells, w_X, w_Y, w_Way), steps)).bind fun r1 =>
  cond (!r1)
  (some (ByteArray.empty, false))
  ((impl_TurnsAfter_l k ((w_Rule, w_Width, w_Height, w_Cells, w_X, w_Y, w_Way), [], steps, 0)).bind fun r2 =>
   some ((ofBytes r2), true)) := by kernel_rfl
theorem impl_TurnsAfter_l.eq (k : Nat) (w_Rule : ByteArray) (w_Width : Int) (w_Height : Int) (w_Cells : ByteArray) (w_X : Int) (w_Y : Int) (w_Way : Int) (out : List Int) (t12 : Int) (t13 : Int) : impl_TurnsAfter_l (k + 1) ((w_Rule, w_Width, w_Height, w_Cells, w_X, w_Y, w_Way), out, t12, t13) =
  cond (decide (t13 < t12))
  ((impl_World_colour k (w_Rule, w_Width, w_Height, w_Cells, w_X, w_Y, w_Way)).bind fun r1 =>
   cond (inB r1 w_Rule.size)
   (cond (fits (out.length + 1) 1)
    ((impl_World_step k (w_Rule, w_Width, w_Height, w_Cells, w_X, w_Y, w_Way)).bind fun r2 =>
     impl_TurnsAfter_l k (r2, (out ++ [(bt w_Rule r1.toNat)]), t12, (w64 (t13 + 1))))
    (none))
   (none))
  (some out) := by kernel_rfl
theorem impl_ColourAt.eq (k : Nat) (w_Rule : ByteArray) (w_Width : Int) (w_Height : Int) (w_Cells : ByteArray) (w_X : Int) (w_Y : Int) (w_Way : Int) (x : Int) (y : Int) : impl_ColourAt (k + 1) ((w_Rule, w_Width, w_Height, w_Cells, w_X, w_Y, w_Way), x, y) =
  (impl_isPlace k ((w_Rule, w_Width, w_Height, w_Cells, w_X, w_Y, w_Way), x, y)).bind fun r1 =>
  cond (!r1)
  (some (0, false))
  (cond (inB (w64 ((w64 (y * w_Width)) + x)) w_Cells.size)
   (some ((w64 (w8 ((bt w_Cells ((w64 ((w64 (y * w_Width)) + x)).toNat)) - 48))), true))
   (none)) := by kernel_rfl
theorem impl_isPlace.eq (k : Nat) (w_Rule : ByteArray) (w_Width : Int) (w_Height : Int) (w_Cells : ByteArray) (w_X : Int) (w_Y : Int) (w_Way : Int) (x : Int) (y : Int) : impl_isPlace (k + 1) ((w_Rule, w_Width, w_Height, w_Cells, w_X, w_Y, w_Way), x, y) =
  (impl_IsWorld k (w_Rule, w_Width, w_Height, w_Cells, w_X, w_Y, w_Way)).bind fun r1 =>
  cond r1
  ((impl_isAnt k (w_Width, w_Height, x, y, 0)).bind fun r2 =>
   some r2)
  (some false) := by kernel_rfl
theorem laws_kSum.eq (k : Nat) (list : List Int) : laws_kSum (k + 1) list =
  (laws_kSum_l k (0, list, (list.length : Int), 0)).bind fun r1 =>
  some r1 := by kernel_rfl
theorem laws_kSum_l.eq (k : Nat) (sum : Int) (t6 : List Int) (t7 : Int) (t8 : Int) : laws_kSum_l (k + 1) (sum, t6, t7, t8) =
  cond (decide (t8 < t7))
  (cond (inB t8 t6.length)
   (laws_kSum_l k ((w64 (sum + (t6.getD t8.toNat default))), t6, t7, (w64 (t8 + 1))))
   (none))
  (some sum) := by kernel_rfl
theorem impl_BackWorld.eq (k : Nat) (w_Rule : ByteArray) (w_Width : Int) (w_Height : Int) (w_Cells : ByteArray) (w_X : Int) (w_Y : Int) (w_Way : Int) : impl_BackWorld (k + 1) (w_Rule, w_Width, w_Height, w_Cells, w_X, w_Y, w_Way) =
  (impl_IsWorld k (w_Rule, w_Width, w_Height, w_Cells, w_X, w_Y, w_Way)).bind fun r1 =>
  cond (!r1)
  (some ((ByteArray.empty, 0, 0, ByteArray.empty, 0, 0, 0), false))
  ((impl_other k w_Rule).bind fun r2 =>
   (slices_Reverse k (bytesOf r2)).bind fun r3 =>
   (impl_BackWorld_l k ((w_Rule, w_Width, w_Height, w_Cells, w_X, w_Y, w_Way), (ByteArray.empty, 0, 0, ByteArray.empty, 0, 0, 0), r3.2, (bytesOf w_Cells), (), ((bytesOf w_Cells).length : Int), 0)).bind fun r4 =>
   (impl_World_gone k (((ofBytes r4.2.2.1), r4.1.2.1, r4.1.2.2.1, (ofBytes r4.2.2.2), r4.1.2.2.2.2.1, r4.1.2.2.2.2.2.1, ((w64 (r4.1.2.2.2.2.2.2 + 2)).tmod 4)), 1)).bind fun r5 =>
   some (r5, true)) := by kernel_rfl
theorem slices_Reverse.eq (k : Nat) (s : List Int) : slices_Reverse (k + 1) s =
  (slices_Reverse_l k (s, 0, (w64 ((s.length : Int) - 1)), ())).bind fun r1 =>
  some ((), r1) := by kernel_rfl
theorem slices_Reverse_l.eq (k : Nat) (s : List Int) (i : Int) (j : Int) : slices_Reverse_l (k + 1) (s, i, j, ()) =
  cond (decide (i < j))
  (cond (inB j s.length)
   (cond (inB i s.length)
    (cond (inB i s.length)
     (cond (inB j ((s.set i.toNat (s.getD j.toNat default)).length))
      (slices_Reverse_l k (((s.set i.toNat (s.getD j.toNat default)).set j.toNat (s.getD i.toNat default)), (w64 (i + 1)), (w64 (j - 1)), ()))
      (none))
     (none))
    (none))
   (none))
  (some s) := by kernel_rfl
theorem impl_BackWorld_l.eq (k : Nat) (w_Rule : ByteArray) (w_Width : Int) (w_Height : Int) (w_Cells : ByteArray) (w_X : Int) (w_Y : Int) (w_Way : Int) (t2_Rule : ByteArray) (t2_Width : Int) (t2_Height : Int) (t2_Cells : ByteArray) (t2_X : Int) (t2_Y : Int) (t2_Way : Int) (rule : List Int) (cells : List Int) (t22 : Int) (t23 : Int) : impl_BackWorld_l (k + 1) ((w_Rule, w_Width, w_Height, w_Cells, w_X, w_Y, w_Way), (t2_Rule, t2_Width, t2_Height, t2_Cells, t2_X, t2_Y, t2_Way), rule, cells, (), t22, t23) =
  cond (decide (t23 < t22))
  (cond (inB t23 cells.length)
   (cond ((rule.length : Int) != 0)
    (cond (inB t23 cells.length)
     (impl_BackWorld_l k ((w_Rule, w_Width, w_Height, w_Cells, w_X, w_Y, w_Way), (t2_Rule, t2_Width, t2_Height, t2_Cells, t2_X, t2_Y, t2_Way), rule, (cells.set t23.toNat (w8 (w64 (48 + ((w64 ((rule.length : Int) - (w64 (w8 ((cells.getD t23.toNat default) - 48))))).tmod (rule.length : Int)))))), (), t22, (w64 (t23 + 1))))
     (none))
    (none))
   (none))
  (some ((w_Rule, w_Width, w_Height, w_Cells, w_X, w_Y, w_Way), (t2_Rule, t2_Width, t2_Height, t2_Cells, t2_X, t2_Y, t2_Way), rule, cells)) := by kernel_rfl
theorem spec_DrawWorldAfter.eq (k : Nat) (code : List Int) : spec_DrawWorldAfter (k + 1) code =
  (spec_l1Cur_world k (code, 0, 0)).bind fun r1 =>
  (spec_l1Cur_steps k r1.2).bind fun r2 =>
  some (r1.1, r2.1) := by kernel_rfl
theorem spec_l1Cur_steps.eq (k : Nat) (c_code : List Int) (c_at : Int) (c_seed : Int) : spec_l1Cur_steps (k + 1) (c_code, c_at, c_seed) =
  (spec_l1Cur_one k ((c_code, c_at, c_seed), 8)).bind fun r1 =>
  cond r1.1
  ((spec_l1Cur_among k (r1.2, [0, 1, 3000, 3001, (-1), 4611686018427387904])).bind fun r2 =>
   some r2)
  ((spec_l1Cur_pick k (r1.2, 60)).bind fun r3 =>
   some r3) := by kernel_rfl
theorem spec_WorldAfter.eq (k : Nat) (w_Rule : ByteArray) (w_Width : Int) (w_Height : Int) (w_Cells : ByteArray) (w_X : Int) (w_Y : Int) (w_Way : Int) (steps : Int) : spec_WorldAfter (k + 1) ((w_Rule, w_Width, w_Height, w_Cells, w_X, w_Y, w_Way), steps) =
  (spec_woSteps k ((w_Rule, w_Width, w_Height, w_Cells, w_X, w_Y, w_Way), steps)).bind fun r1 =>
  cond (!r1)
  (some ((ByteArray.empty, 0, 0, ByteArray.empty, 0, 0, 0), false))
  ((spec_WorldAfter_l k (steps, (w_Rule, w_Width, w_Height, w_Cells, w_X, w_Y, w_Way), (ByteArray.empty, 0, 0, ByteArray.empty, 0, 0, 0))).bind fun r2 =>
   some (r2.1, true)) := by kernel_rfl
theorem spec_woSteps.eq (k : Nat) (w_Rule : ByteArray) (w_Width : Int) (w_Height : Int) (w_Cells : ByteArray) (w_X : Int) (w_Y : Int) (w_Way : Int) (steps : Int) : spec_woSteps (k + 1) ((w_Rule, w_Width, w_Height, w_Cells, w_X, w_Y, w_Way), steps) =
  (spec_woGood k (w_Rule, w_Width, w_Height, w_Cells, w_X, w_Y, w_Way)).bind fun r1 =>
  cond r1
  ((spec_l1In k (steps, 0, 3000)).bind fun r2 =>
   some r2)
  (some false) := by kernel_rfl
theorem spec_WorldAfter_l.eq (k : Nat) (steps : Int) (w_Rule : ByteArray) (w_Width : Int) (w_Height : Int) (w_Cells : ByteArray) (w_X : Int) (w_Y : Int) (w_Way : Int) (t4_Rule : ByteArray) (t4_Width : Int) (t4_Height : Int) (t4_Cells : ByteArray) (t4_X : Int) (t4_Y : Int) (t4_Way : Int) : spec_WorldAfter_l (k + 1) (steps, (w_Rule, w_Width, w_Height, w_Cells, w_X, w_Y, w_Way), (t4_Rule, t4_Width, t4_Height, t4_Cells, t4_X, t4_Y, t4_Way)) =
  cond (decide (steps > 0))
  ((spec_woStep k (w_Rule, w_Width, w_Height, w_Cells, w_X, w_Y, w_Way)).bind fun r1 =>
   spec_WorldAfter_l k ((w64 (steps - 1)), r1, (t4_Rule, t4_Width, t4_Height, t4_Cells, t4_X, t4_Y, t4_Way)))
  (some ((w_Rule, w_Width, w_Height, w_Cells, w_X, w_Y, w_Way), (t4_Rule, t4_Width, t4_Height, t4_Cells, t4_X, t4_Y, t4_Way))) := by kernel_rfl
theorem spec_WorldBefore.eq (k : Nat) (w_Rule : ByteArray) (w_Width : Int) (w_Height : Int) (w_Cells : ByteArray) (w_X : Int) (w_Y : Int) (w_Way : Int) (steps : Int) : spec_WorldBefore (k + 1) ((w_Rule, w_Width, w_Height, w_Cells, w_X, w_Y, w_Way), steps) =
  (spec_woSteps k ((w_Rule, w_Width, w_Height, w_Cells, w_X, w_Y, w_Way), steps)).bind fun r1 =>
  cond (!r1)
  (some ((ByteArray.empty, 0, 0, ByteArray.empty, 0, 0, 0), false))
  ((spec_WorldBefore_l k (steps, (w_Rule, w_Width, w_Height, w_Cells, w_X, w_Y, w_Way), (ByteArray.empty, 0, 0, ByteArray.empty, 0, 0, 0))).bind fun r2 =>
   some (r2.1, true)) := by kernel_rfl
theorem spec_WorldBefore_l.eq (k : Nat) (steps : Int) (w_Rule : ByteArray) (w_Width : Int) (w_Height : Int) (w_Cells : ByteArray) (w_X : Int) (w_Y : Int) (w_Way : Int) (t4_Rule : ByteArray) (t4_Width : Int) (t4_Height : Int) (t4_Cells : ByteArray) (t4_X : Int) (t4_Y : Int) (t4_Way : Int) : spec_WorldBefore_l (k + 1) (steps, (w_Rule, w_Width, w_Height, w_Cells, w_X, w_Y, w_Way), (t4_Rule, t4_Width, t4_Height, t4_Cells, t4_X, t4_Y, t4_Way)) =
  cond (decide (steps > 0))
  ((spec_woBack k (w_Rule, w_Width, w_Height, w_Cells, w_X, w_Y, w_Way)).bind fun r1 =>
   spec_WorldBefore_l k ((w64 (steps - 1)), r1, (t4_Rule, t4_Width, t4_Height, t4_Cells, t4_X, t4_Y, t4_Way)))
  (some ((w_Rule, w_Width, w_Height, w_Cells, w_X, w_Y, w_Way), (t4_Rule, t4_Width, t4_Height, t4_Cells, t4_X, t4_Y, t4_Way))) := by kernel_rfl
theorem spec_TurnsAfter.eq (k : Nat) (w_Rule : ByteArray) (w_Width : Int) (w_Height : Int) (w_Cells : ByteArray) (w_X : Int) (w_Y : Int) (w_Way : Int) (steps : Int) : spec_TurnsAfter (k + 1) ((w_Rule, w_Width, w_Height, w_Cells, w_X, w_Y, w_Way), steps) =
  (spec_woSteps k ((w_Rule, w_Width, w_Height, w_Cells, w_X, w_Y, w_Way), steps)).bind fun r1 =>
  cond (!r1)
  (some (ByteArray.empty, false))
  ((spec_TurnsAfter_l k (steps, (w_Rule, w_Width, w_Height, w_Cells, w_X, w_Y, w_Way), ByteArray.empty)).bind fun r2 =>
   some (r2, true)) := by kernel_rfl
theorem spec_TurnsAfter_l.eq (k : Nat) (steps : Int) (w_Rule : ByteArray) (w_Width : Int) (w_Height : Int) (w_Cells : ByteArray) (w_X : Int) (w_Y : Int) (w_Way : Int) (out : ByteArray) : spec_TurnsAfter_l (k + 1) (steps, (w_Rule, w_Width, w_Height, w_Cells, w_X, w_Y, w_Way), out) =
  cond (decide (steps > 0))
  ((spec_woColour k ((w_Rule, w_Width, w_Height, w_Cells, w_X, w_Y, w_Way), w_X, w_Y)).bind fun r1 =>
   cond (((decide ((0 : Int) ≤ (w64 (r1 + 1)))) && (decide ((w64 (r1 + 1)) ≤ (w_Rule.size : Int)))) && ((decide ((0 : Int) ≤ r1)) && (decide (r1 ≤ (w64 (r1 + 1))))))
   (cond (fitS out (w_Rule.extract r1.toNat ((w64 (r1 + 1)).toNat)))
    ((spec_woStep k (w_Rule, w_Width, w_Height, w_Cells, w_X, w_Y, w_Way)).bind fun r2 =>
     spec_TurnsAfter_l k ((w64 (steps - 1)), r2, (out ++ (w_Rule.extract r1.toNat ((w64 (r1 + 1)).toNat)))))
    (none))
   (none))
  (some out) := by kernel_rfl
end Go.Proofs.YtmdgodjcfhimbaaGreatDoorS
