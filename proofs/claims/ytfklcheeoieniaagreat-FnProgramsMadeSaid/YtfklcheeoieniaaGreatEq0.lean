/- What each function computes (printed by wip/sim/gen.py). -/
import Derived.Test.YtfklcheeoieniaaGreatTab
namespace Go.Proofs.YtfklcheeoieniaaGreatS
open Go Go.Proofs
set_option maxRecDepth 100000
set_option linter.unusedVariables false
theorem laws_FnProgramsMade.eq (k : Nat) (code : List Int) (more : List Int) : laws_FnProgramsMade (k + 1) (code, more) =
  (laws_big k (code, more)).bind fun r1 =>
  cond r1
  (some true)
  ((spec_DrawBackProgram k code).bind fun r2 =>
   (impl_BackProgram k r2).bind fun r3 =>
   (spec_BackProgram k r2).bind fun r4 =>
   (impl_OtherProgram k r2).bind fun r5 =>
   (spec_OtherProgram k r2).bind fun r6 =>
   cond (!(r3.2 == r4.2))
   (some false)
   (cond (!(strEq r3.1 r4.1))
    (some false)
    (cond (!(r5.2 == r6.2))
     (some false)
     (cond (!(strEq r5.1 r6.1))
      (some false)
      ((impl_IsProgram k r2).bind fun r7 =>
       cond (!(r3.2 == r7))
       (some false)
       (cond (!(r5.2 == r3.2))
        (some false)
        (cond r3.2
         ((impl_BackProgram k r3.1).bind fun r8 =>
          (impl_OtherProgram k r5.1).bind fun r9 =>
          (impl_QuartersOf k r2).bind fun r10 =>
          (impl_PlaceAfter k (r2, 1)).bind fun r11 =>
          (impl_PlaceAfter k (r5.1, 1)).bind fun r12 =>
          (impl_LengthOf k (r3.1, 1)).bind fun r13 =>
          (impl_LengthOf k (r2, 1)).bind fun r14 =>
          (impl_QuartersOf k r5.1).bind fun r15 =>
          cond (!r8.2)
          (some false)
          (cond (!(strEq r8.1 r2))
           (some false)
           (cond (!r9.2)
            (some false)
            (cond (!(strEq r9.1 r2))
             (some false)
             (cond (!r10.2)
              (some false)
              (cond (!r11.2.2.2)
               (some false)
               (cond (!r12.2.2.2)
                (some false)
                (cond (r12.1 != (w64 (0 - r11.1)))
                 (some false)
                 (cond (r12.2.1 != r11.2.1)
                  (some false)
                  (cond (!r13.2)
                   (some false)
                   (cond (!r14.2)
                    (some false)
                    (cond (r13.1 != r14.1)
                     (some false)
                     (cond (!r15.2)
                      (some false)
                      ((laws_FnProgramsMade_l k (more, r2, r10.1, r15.1, 0, (r2, 0))).bind fun r16 =>
                       cond ((w64 (r16.2.1 + r16.2.2.1)) != (w64 (4 * r16.2.2.2)))
                       (some false)
                       ((spec_DrawJoinPrograms k r16.1).bind fun r17 =>
                        (impl_JoinPrograms k r17).bind fun r18 =>
                        (spec_JoinPrograms k r17).bind fun r19 =>
                        (spec_DrawGrowProgram k r16.1).bind fun r20 =>
                        (impl_GrowProgram k r20).bind fun r21 =>
                        (spec_GrowProgram k r20).bind fun r22 =>
                        (spec_DrawSpiralProgram k r16.1).bind fun r23 =>
                        (impl_SpiralProgram k r23).bind fun r24 =>
                        (spec_SpiralProgram k r23).bind fun r25 =>
                        cond (!(r18.2 == r19.2))
                        (some false)
                        (cond (!(strEq r18.1 r19.1))
                         (some false)
                         (cond (!(r21.2 == r22.2))
                          (some false)
                          (cond (!(strEq r21.1 r22.1))
                           (some false)
                           (cond (!(r24.2 == r25.2))
                            (some false)
                            (cond (!(strEq r24.1 r25.1))
                             (some false)
                             (cond r18.2
                              ((impl_PlaceAfter k (r17.1, 1)).bind fun r26 =>
                               (impl_PlaceAfter k (r17.2, 1)).bind fun r27 =>
                               (impl_PlaceAfter k (r18.1, 1)).bind fun r28 =>
                               cond (r26.2.2.1 == 1)
                               (cond (!r26.2.2.2)
                                (some false)
                                (cond (!r27.2.2.2)
                                 (some false)
                                 (cond (!r28.2.2.2)
                                  (some false)
                                  (cond (r28.1 != (w64 (r26.1 + (w64 (0 - r27.2.1)))))
                                   (some false)
                                   (cond (r28.2.1 != (w64 (r26.2.1 + r27.1)))
                                    (some false)
                                    (cond (r28.2.2.1 != ((w64 (r26.2.2.1 + r27.2.2.1)).tmod 4))
                                     (some false)
                                     (cond r21.2
                                      ((impl_PlaceAfter k (r20.1, 3)).bind fun r29 =>
                                       (impl_PlaceAfter k (r21.1, 3)).bind fun r30 =>
                                       cond (!r29.2.2.2)
                                       (some false)
                                       (cond (!r30.2.2.2)
                                        (some false)
                                        (cond (r30.1 != (w64 (r20.2 * r29.1)))
                                         (some false)
                                         (cond (r30.2.1 != (w64 (r20.2 * r29.2.1)))
                                          (some false)
                                          (cond (r30.2.2.1 != r29.2.2.1)
                                           (some false)
                                           (cond r24.2
                                            ((impl_LengthOf k (r24.1, 1)).bind fun r31 =>
                                             (impl_QuartersOf k r24.1).bind fun r32 =>
                                             cond r31.2
                                             (cond (r31.1 == (w64 ((w64 (r23.1 * (w64 (r23.1 + 1)))).tdiv 2)))
                                              (cond r32.2
                                               (cond (r32.1 == (w64 (r23.1 - (w64 (2 * (r23.2.length : Int))))))
                                                (some ((r24.1.size : Int) == (w64 (2 * r23.1))))
                                                (some false))
                                               (some false))
                                              (some false))
                                             (some false))
                                            (some true)))))))
                                      (cond r24.2
                                       ((impl_LengthOf k (r24.1, 1)).bind fun r33 =>
                                        (impl_QuartersOf k r24.1).bind fun r34 =>
                                        cond r33.2
                                        (cond (r33.1 == (w64 ((w64 (r23.1 * (w64 (r23.1 + 1)))).tdiv 2)))
                                         (cond r34.2
                                          (cond (r34.1 == (w64 (r23.1 - (w64 (2 * (r23.2.length : Int))))))
                                           (some ((r24.1.size : Int) == (w64 (2 * r23.1))))
                                           (some false))
                                          (some false))
                                         (some false))
                                        (some false))
                                       (some true)))))))))
                               (cond (r26.2.2.1 == 2)
                                (cond (!r26.2.2.2)
                                 (some false)
                                 (cond (!r27.2.2.2)
                                  (some false)
                                  (cond (!r28.2.2.2)
                                   (some false)
                                   (cond (r28.1 != (w64 (r26.1 + (w64 (0 - r27.1)))))
                                    (some false)
                                    (cond (r28.2.1 != (w64 (r26.2.1 + (w64 (0 - r27.2.1)))))
                                     (some false)
                                     (cond (r28.2.2.1 != ((w64 (r26.2.2.1 + r27.2.2.1)).tmod 4))
                                      (some false)
                                      (cond r21.2
                                       ((impl_PlaceAfter k (r20.1, 3)).bind fun r35 =>
                                        (impl_PlaceAfter k (r21.1, 3)).bind fun r36 =>
                                        cond (!r35.2.2.2)
                                        (some false)
                                        (cond (!r36.2.2.2)
                                         (some false)
                                         (cond (r36.1 != (w64 (r20.2 * r35.1)))
                                          (some false)
                                          (cond (r36.2.1 != (w64 (r20.2 * r35.2.1)))
                                           (some false)
                                           (cond (r36.2.2.1 != r35.2.2.1)
                                            (some false)
                                            (cond r24.2
                                             ((impl_LengthOf k (r24.1, 1)).bind fun r37 =>
                                              (impl_QuartersOf k r24.1).bind fun r38 =>
                                              cond r37.2
                                              (cond (r37.1 == (w64 ((w64 (r23.1 * (w64 (r23.1 + 1)))).tdiv 2)))
                                               (cond r38.2
                                                (cond (r38.1 == (w64 (r23.1 - (w64 (2 * (r23.2.length : Int))))))
                                                 (some ((r24.1.size : Int) == (w64 (2 * r23.1))))
                                                 (some false))
                                                (some false))
                                               (some false))
                                              (some false))
                                             (some true)))))))
                                       (cond r24.2
                                        ((impl_LengthOf k (r24.1, 1)).bind fun r39 =>
                                         (impl_QuartersOf k r24.1).bind fun r40 =>
                                         cond r39.2
                                         (cond (r39.1 == (w64 ((w64 (r23.1 * (w64 (r23.1 + 1)))).tdiv 2)))
                                          (cond r40.2
                                           (cond (r40.1 == (w64 (r23.1 - (w64 (2 * (r23.2.length : Int))))))
                                            (some ((r24.1.size : Int) == (w64 (2 * r23.1))))
                                            (some false))
                                           (some false))
                                          (some false))
                                         (some false))
                                        (some true)))))))))
                                (cond (r26.2.2.1 == 3)
                                 (cond (!r26.2.2.2)
                                  (some false)
                                  (cond (!r27.2.2.2)
                                   (some false)
                                   (cond (!r28.2.2.2)
                                    (some false)
                                    (cond (r28.1 != (w64 (r26.1 + r27.2.1)))
                                     (some false)
                                     (cond (r28.2.1 != (w64 (r26.2.1 + (w64 (0 - r27.1)))))
                                      (some false)
                                      (cond (r28.2.2.1 != ((w64 (r26.2.2.1 + r27.2.2.1)).tmod 4))
                                       (some false)
                                       (cond r21.2
                                        ((impl_PlaceAfter k (r20.1, 3)).bind fun r41 =>
                                         (impl_PlaceAfter k (r21.1, 3)).bind fun r42 =>
                                         cond (!r41.2.2.2)
                                         (some false)
                                         (cond (!r42.2.2.2)
                                          (some false)
                                          (cond (r42.1 != (w64 (r20.2 * r41.1)))
                                           (some false)
                                           (cond (r42.2.1 != (w64 (r20.2 * r41.2.1)))
                                            (some false)
                                            (cond (r42.2.2.1 != r41.2.2.1)
                                             (some false)
                                             (cond r24.2
                                              ((impl_LengthOf k (r24.1, 1)).bind fun r43 =>
                                               (impl_QuartersOf k r24.1).bind fun r44 =>
                                               cond r43.2
                                               (cond (r43.1 == (w64 ((w64 (r23.1 * (w64 (r23.1 + 1)))).tdiv 2)))
                                                (cond r44.2
                                                 (cond (r44.1 == (w64 (r23.1 - (w64 (2 * (r23.2.length : Int))))))
                                                  (some ((r24.1.size : Int) == (w64 (2 * r23.1))))
                                                  (some false))
                                                 (some false))
                                                (some false))
                                               (some false))
                                              (some true)))))))
                                        (cond r24.2
                                         ((impl_LengthOf k (r24.1, 1)).bind fun r45 =>
                                          (impl_QuartersOf k r24.1).bind fun r46 =>
                                          cond r45.2
                                          (cond (r45.1 == (w64 ((w64 (r23.1 * (w64 (r23.1 + 1)))).tdiv 2)))
                                           (cond r46.2
                                            (cond (r46.1 == (w64 (r23.1 - (w64 (2 * (r23.2.length : Int))))))
                                             (some ((r24.1.size : Int) == (w64 (2 * r23.1))))
                                             (some false))
                                            (some false))
                                           (some false))
                                          (some false))
                                         (some true)))))))))
                                 (cond (!r26.2.2.2)
                                  (some false)
                                  (cond (!r27.2.2.2)
                                   (some false)
                                   (cond (!r28.2.2.2)
                                    (some false)
                                    (cond (r28.1 != (w64 (r26.1 + r27.1)))
                                     (some false)
                                     (cond (r28.2.1 != (w64 (r26.2.1 + r27.2.1)))
                                      (some false)
                                      (cond (r28.2.2.1 != ((w64 (r26.2.2.1 + r27.2.2.1)).tmod 4))
                                       (some false)
                                       (cond r21.2
                                        ((impl_PlaceAfter k (r20.1, 3)).bind fun r47 =>
                                         (impl_PlaceAfter k (r21.1, 3)).bind fun r48 =>
                                         cond (!r47.2.2.2)
                                         (some false)
                                         (cond (!r48.2.2.2)
                                          (some false)
                                          (cond (r48.1 != (w64 (r20.2 * r47.1)))
                                           (some false)
                                           (cond (r48.2.1 != (w64 (r20.2 * r47.2.1)))
                                            (some false)
                                            (cond (r48.2.2.1 != r47.2.2.1)
                                             (some false)
                                             (cond r24.2
                                              ((impl_LengthOf k (r24.1, 1)).bind fun r49 =>
                                               (impl_QuartersOf k r24.1).bind fun r50 =>
                                               cond r49.2
                                               (cond (r49.1 == (w64 ((w64 (r23.1 * (w64 (r23.1 + 1)))).tdiv 2)))
                                                (cond r50.2
                                                 (cond (r50.1 == (w64 (r23.1 - (w64 (2 * (r23.2.length : Int))))))
                                                  (some ((r24.1.size : Int) == (w64 (2 * r23.1))))
                                                  (some false))
                                                 (some false))
                                                (some false))
                                               (some false))
                                              (some true)))))))
                                        (cond r24.2
                                         ((impl_LengthOf k (r24.1, 1)).bind fun r51 =>
                                          (impl_QuartersOf k r24.1).bind fun r52 =>
                                          cond r51.2
                                          (cond (r51.1 == (w64 ((w64 (r23.1 * (w64 (r23.1 + 1)))).tdiv 2)))
                                           (cond r52.2
                                            (cond (r52.1 == (w64 (r23.1 - (w64 (2 * (r23.2.length : Int))))))
                                             (some ((r24.1.size : Int) == (w64 (2 * r23.1))))
                                             (some false))
                                            (some false))
                                           (some false))
                                          (some false))
                                         (some true))))))))))))
                              (cond r21.2
                               ((impl_PlaceAfter k (r20.1, 3)).bind fun r53 =>
                                (impl_PlaceAfter k (r21.1, 3)).bind fun r54 =>
                                cond (!r53.2.2.2)
                                (some false)
                                (cond (!r54.2.2.2)
                                 (some false)
                                 (cond (r54.1 != (w64 (r20.2 * r53.1)))
                                  (some false)
                                  (cond (r54.2.1 != (w64 (r20.2 * r53.2.1)))
                                   (some false)
                                   (cond (r54.2.2.1 != r53.2.2.1)
                                    (some false)
                                    (cond r24.2
                                     ((impl_LengthOf k (r24.1, 1)).bind fun r55 =>
                                      (impl_QuartersOf k r24.1).bind fun r56 =>
                                      cond r55.2
                                      (cond (r55.1 == (w64 ((w64 (r23.1 * (w64 (r23.1 + 1)))).tdiv 2)))
                                       (cond r56.2
                                        (cond (r56.1 == (w64 (r23.1 - (w64 (2 * (r23.2.length : Int))))))
                                         (some ((r24.1.size : Int) == (w64 (2 * r23.1))))
                                         (some false))
                                        (some false))
                                       (some false))
                                      (some false))
                                     (some true)))))))
                               (cond r24.2
                                ((impl_LengthOf k (r24.1, 1)).bind fun r57 =>
                                 (impl_QuartersOf k r24.1).bind fun r58 =>
                                 cond r57.2
                                 (cond (r57.1 == (w64 ((w64 (r23.1 * (w64 (r23.1 + 1)))).tdiv 2)))
                                  (cond r58.2
                                   (cond (r58.1 == (w64 (r23.1 - (w64 (2 * (r23.2.length : Int))))))
                                    (some ((r24.1.size : Int) == (w64 (2 * r23.1))))
                                    (some false))
                                   (some false))
                                  (some false))
                                 (some false))
                                (some true))))))))))))))))))))))))
         ((spec_DrawJoinPrograms k more).bind fun r59 =>
          (impl_JoinPrograms k r59).bind fun r60 =>
          (spec_JoinPrograms k r59).bind fun r61 =>
          (spec_DrawGrowProgram k more).bind fun r62 =>
          (impl_GrowProgram k r62).bind fun r63 =>
          (spec_GrowProgram k r62).bind fun r64 =>
          (spec_DrawSpiralProgram k more).bind fun r65 =>
          (impl_SpiralProgram k r65).bind fun r66 =>
          (spec_SpiralProgram k r65).bind fun r67 =>
          cond (!(r60.2 == r61.2))
          (some false)
          (cond (!(strEq r60.1 r61.1))
           (some false)
           (cond (!(r63.2 == r64.2))
            (some false)
            (cond (!(strEq r63.1 r64.1))
             (some false)
             (cond (!(r66.2 == r67.2))
              (some false)
              (cond (!(strEq r66.1 r67.1))
               (some false)
               (cond r60.2
                ((impl_PlaceAfter k (r59.1, 1)).bind fun r68 =>
                 (impl_PlaceAfter k (r59.2, 1)).bind fun r69 =>
                 (impl_PlaceAfter k (r60.1, 1)).bind fun r70 =>
                 cond (r68.2.2.1 == 1)
                 (cond (!r68.2.2.2)
                  (some false)
                  (cond (!r69.2.2.2)
                   (some false)
                   (cond (!r70.2.2.2)
                    (some false)
                    (cond (r70.1 != (w64 (r68.1 + (w64 (0 - r69.2.1)))))
                     (some false)
                     (cond (r70.2.1 != (w64 (r68.2.1 + r69.1)))
                      (some false)
                      (cond (r70.2.2.1 != ((w64 (r68.2.2.1 + r69.2.2.1)).tmod 4))
                       (some false)
                       (cond r63.2
                        ((impl_PlaceAfter k (r62.1, 3)).bind fun r71 =>
                         (impl_PlaceAfter k (r63.1, 3)).bind fun r72 =>
                         cond (!r71.2.2.2)
                         (some false)
                         (cond (!r72.2.2.2)
                          (some false)
                          (cond (r72.1 != (w64 (r62.2 * r71.1)))
                           (some false)
                           (cond (r72.2.1 != (w64 (r62.2 * r71.2.1)))
                            (some false)
                            (cond (r72.2.2.1 != r71.2.2.1)
                             (some false)
                             (cond r66.2
                              ((impl_LengthOf k (r66.1, 1)).bind fun r73 =>
                               (impl_QuartersOf k r66.1).bind fun r74 =>
                               cond r73.2
                               (cond (r73.1 == (w64 ((w64 (r65.1 * (w64 (r65.1 + 1)))).tdiv 2)))
                                (cond r74.2
                                 (cond (r74.1 == (w64 (r65.1 - (w64 (2 * (r65.2.length : Int))))))
                                  (some ((r66.1.size : Int) == (w64 (2 * r65.1))))
                                  (some false))
                                 (some false))
                                (some false))
                               (some false))
                              (some true)))))))
                        (cond r66.2
                         ((impl_LengthOf k (r66.1, 1)).bind fun r75 =>
                          (impl_QuartersOf k r66.1).bind fun r76 =>
                          cond r75.2
                          (cond (r75.1 == (w64 ((w64 (r65.1 * (w64 (r65.1 + 1)))).tdiv 2)))
                           (cond r76.2
                            (cond (r76.1 == (w64 (r65.1 - (w64 (2 * (r65.2.length : Int))))))
                             (some ((r66.1.size : Int) == (w64 (2 * r65.1))))
                             (some false))
                            (some false))
                           (some false))
                          (some false))
                         (some true)))))))))
                 (cond (r68.2.2.1 == 2)
                  (cond (!r68.2.2.2)
                   (some false)
                   (cond (!r69.2.2.2)
                    (some false)
                    (cond (!r70.2.2.2)
                     (some false)
                     (cond (r70.1 != (w64 (r68.1 + (w64 (0 - r69.1)))))
                      (some false)
                      (cond (r70.2.1 != (w64 (r68.2.1 + (w64 (0 - r69.2.1)))))
                       (some false)
                       (cond (r70.2.2.1 != ((w64 (r68.2.2.1 + r69.2.2.1)).tmod 4))
                        (some false)
                        (cond r63.2
                         ((impl_PlaceAfter k (r62.1, 3)).bind fun r77 =>
                          (impl_PlaceAfter k (r63.1, 3)).bind fun r78 =>
                          cond (!r77.2.2.2)
                          (some false)
                          (cond (!r78.2.2.2)
                           (some false)
                           (cond (r78.1 != (w64 (r62.2 * r77.1)))
                            (some false)
                            (cond (r78.2.1 != (w64 (r62.2 * r77.2.1)))
                             (some false)
                             (cond (r78.2.2.1 != r77.2.2.1)
                              (some false)
                              (cond r66.2
                               ((impl_LengthOf k (r66.1, 1)).bind fun r79 =>
                                (impl_QuartersOf k r66.1).bind fun r80 =>
                                cond r79.2
                                (cond (r79.1 == (w64 ((w64 (r65.1 * (w64 (r65.1 + 1)))).tdiv 2)))
                                 (cond r80.2
                                  (cond (r80.1 == (w64 (r65.1 - (w64 (2 * (r65.2.length : Int))))))
                                   (some ((r66.1.size : Int) == (w64 (2 * r65.1))))
                                   (some false))
                                  (some false))
                                 (some false))
                                (some false))
                               (some true)))))))
                         (cond r66.2
                          ((impl_LengthOf k (r66.1, 1)).bind fun r81 =>
                           (impl_QuartersOf k r66.1).bind fun r82 =>
                           cond r81.2
                           (cond (r81.1 == (w64 ((w64 (r65.1 * (w64 (r65.1 + 1)))).tdiv 2)))
                            (cond r82.2
                             (cond (r82.1 == (w64 (r65.1 - (w64 (2 * (r65.2.length : Int))))))
                              (some ((r66.1.size : Int) == (w64 (2 * r65.1))))
                              (some false))
                             (some false))
                            (some false))
                           (some false))
                          (some true)))))))))
                  (cond (r68.2.2.1 == 3)
                   (cond (!r68.2.2.2)
                    (some false)
                    (cond (!r69.2.2.2)
                     (some false)
                     (cond (!r70.2.2.2)
                      (some false)
                      (cond (r70.1 != (w64 (r68.1 + r69.2.1)))
                       (some false)
                       (cond (r70.2.1 != (w64 (r68.2.1 + (w64 (0 - r69.1)))))
                        (some false)
                        (cond (r70.2.2.1 != ((w64 (r68.2.2.1 + r69.2.2.1)).tmod 4))
                         (some false)
                         (cond r63.2
                          ((impl_PlaceAfter k (r62.1, 3)).bind fun r83 =>
                           (impl_PlaceAfter k (r63.1, 3)).bind fun r84 =>
                           cond (!r83.2.2.2)
                           (some false)
                           (cond (!r84.2.2.2)
                            (some false)
                            (cond (r84.1 != (w64 (r62.2 * r83.1)))
                             (some false)
                             (cond (r84.2.1 != (w64 (r62.2 * r83.2.1)))
                              (some false)
                              (cond (r84.2.2.1 != r83.2.2.1)
                               (some false)
                               (cond r66.2
                                ((impl_LengthOf k (r66.1, 1)).bind fun r85 =>
                                 (impl_QuartersOf k r66.1).bind fun r86 =>
                                 cond r85.2
                                 (cond (r85.1 == (w64 ((w64 (r65.1 * (w64 (r65.1 + 1)))).tdiv 2)))
                                  (cond r86.2
                                   (cond (r86.1 == (w64 (r65.1 - (w64 (2 * (r65.2.length : Int))))))
                                    (some ((r66.1.size : Int) == (w64 (2 * r65.1))))
                                    (some false))
                                   (some false))
                                  (some false))
                                 (some false))
                                (some true)))))))
                          (cond r66.2
                           ((impl_LengthOf k (r66.1, 1)).bind fun r87 =>
                            (impl_QuartersOf k r66.1).bind fun r88 =>
                            cond r87.2
                            (cond (r87.1 == (w64 ((w64 (r65.1 * (w64 (r65.1 + 1)))).tdiv 2)))
                             (cond r88.2
                              (cond (r88.1 == (w64 (r65.1 - (w64 (2 * (r65.2.length : Int))))))
                               (some ((r66.1.size : Int) == (w64 (2 * r65.1))))
                               (some false))
                              (some false))
                             (some false))
                            (some false))
                           (some true)))))))))
                   (cond (!r68.2.2.2)
                    (some false)
                    (cond (!r69.2.2.2)
                     (some false)
                     (cond (!r70.2.2.2)
                      (some false)
                      (cond (r70.1 != (w64 (r68.1 + r69.1)))
                       (some false)
                       (cond (r70.2.1 != (w64 (r68.2.1 + r69.2.1)))
                        (some false)
                        (cond (r70.2.2.1 != ((w64 (r68.2.2.1 + r69.2.2.1)).tmod 4))
                         (some false)
                         (cond r63.2
                          ((impl_PlaceAfter k (r62.1, 3)).bind fun r89 =>
                           (impl_PlaceAfter k (r63.1, 3)).bind fun r90 =>
                           cond (!r89.2.2.2)
                           (some false)
                           (cond (!r90.2.2.2)
                            (some false)
                            (cond (r90.1 != (w64 (r62.2 * r89.1)))
                             (some false)
                             (cond (r90.2.1 != (w64 (r62.2 * r89.2.1)))
                              (some false)
                              (cond (r90.2.2.1 != r89.2.2.1)
                               (some false)
                               (cond r66.2
                                ((impl_LengthOf k (r66.1, 1)).bind fun r91 =>
                                 (impl_QuartersOf k r66.1).bind fun r92 =>
                                 cond r91.2
                                 (cond (r91.1 == (w64 ((w64 (r65.1 * (w64 (r65.1 + 1)))).tdiv 2)))
                                  (cond r92.2
                                   (cond (r92.1 == (w64 (r65.1 - (w64 (2 * (r65.2.length : Int))))))
                                    (some ((r66.1.size : Int) == (w64 (2 * r65.1))))
                                    (some false))
                                   (some false))
                                  (some false))
                                 (some false))
                                (some true)))))))
                          (cond r66.2
                           ((impl_LengthOf k (r66.1, 1)).bind fun r93 =>
                            (impl_QuartersOf k r66.1).bind fun r94 =>
                            cond r93.2
                            (cond (r93.1 == (w64 ((w64 (r65.1 * (w64 (r65.1 + 1)))).tdiv 2)))
                             (cond r94.2
                              (cond (r94.1 == (w64 (r65.1 - (w64 (2 * (r65.2.length : Int))))))
                               (some ((r66.1.size : Int) == (w64 (2 * r65.1))))
                               (some false))
                              (some false))
                             (some false))
                            (some false))
                           (some true))))))))))))
                (cond r63.2
                 ((impl_PlaceAfter k (r62.1, 3)).bind fun r95 =>
                  (impl_PlaceAfter k (r63.1, 3)).bind fun r96 =>
                  cond (!r95.2.2.2)
                  (some false)
                  (cond (!r96.2.2.2)
                   (some false)
                   (cond (r96.1 != (w64 (r62.2 * r95.1)))
                    (some false)
                    (cond (r96.2.1 != (w64 (r62.2 * r95.2.1)))
                     (some false)
                     (cond (r96.2.2.1 != r95.2.2.1)
                      (some false)
                      (cond r66.2
                       ((impl_LengthOf k (r66.1, 1)).bind fun r97 =>
                        (impl_QuartersOf k r66.1).bind fun r98 =>
                        cond r97.2
                        (cond (r97.1 == (w64 ((w64 (r65.1 * (w64 (r65.1 + 1)))).tdiv 2)))
                         (cond r98.2
                          (cond (r98.1 == (w64 (r65.1 - (w64 (2 * (r65.2.length : Int))))))
                           (some ((r66.1.size : Int) == (w64 (2 * r65.1))))
                           (some false))
                          (some false))
                         (some false))
                        (some false))
                       (some true)))))))
                 (cond r66.2
                  ((impl_LengthOf k (r66.1, 1)).bind fun r99 =>
                   (impl_QuartersOf k r66.1).bind fun r100 =>
                   cond r99.2
                   (cond (r99.1 == (w64 ((w64 (r65.1 * (w64 (r65.1 + 1)))).tdiv 2)))
                    (cond r100.2
                     (cond (r100.1 == (w64 (r65.1 - (w64 (2 * (r65.2.length : Int))))))
                      (some ((r66.1.size : Int) == (w64 (2 * r65.1))))
                      (some false))
                     (some false))
                    (some false))
                   (some false))
                  (some true))))))))))))))))) := by kernel_rfl
theorem laws_big.eq (k : Nat) (code : List Int) (more : List Int) : laws_big (k + 1) (code, more) =
  cond (decide ((code.length : Int) > 1048576))
  (some true)
  (some (decide ((more.length : Int) > (w64 (1048576 - (code.length : Int)))))) := by kernel_rfl
theorem spec_DrawBackProgram.eq (k : Nat) (code : List Int) : spec_DrawBackProgram (k + 1) code =
  (spec_DrawIsProgram k code).bind fun r1 =>
  some r1 := by kernel_rfl
theorem spec_DrawIsProgram.eq (k : Nat) (code : List Int) : spec_DrawIsProgram (k + 1) code =
  (spec_l1Cur_program k (code, 0, 0)).bind fun r1 =>
  some r1.1 := by kernel_rfl
theorem spec_l1Cur_program.eq (k : Nat) (c_code : List Int) (c_at : Int) (c_seed : Int) : spec_l1Cur_program (k + 1) (c_code, c_at, c_seed) =
  (spec_l1Cur_sureProgram k ((c_code, c_at, c_seed), 6)).bind fun r1 =>
  (spec_l1Cur_one k (r1.2, 10)).bind fun r2 =>
  cond r2.1
  (cond (fitS r1.1 r1.1)
   (cond (fitS (r1.1 ++ r1.1) r1.1)
    ((spec_l1Cur_of k (r2.2, [ByteArray.empty, (bs [49]), (bs [82, 49]), (bs [49, 82, 50]), (bs [49, 88]), ((r1.1 ++ r1.1) ++ r1.1), (bs [49, 114])])).bind fun r3 =>
     some r3)
    (none))
   (none))
  (some (r1.1, r2.2)) := by kernel_rfl
theorem spec_l1Cur_sureProgram.eq (k : Nat) (c_code : List Int) (c_at : Int) (c_seed : Int) (most : Int) : spec_l1Cur_sureProgram (k + 1) ((c_code, c_at, c_seed), most) =
  (spec_l1Cur_one k ((c_code, c_at, c_seed), 4)).bind fun r1 =>
  cond r1.1
  ((spec_l1Cur_pick k (r1.2, most)).bind fun r2 =>
   (spec_SpiralProgram k ((w64 (1 + r2.1)), [])).bind fun r3 =>
   some (r3.1, r2.2))
  ((spec_l1Cur_pick k (r1.2, most)).bind fun r4 =>
   (spec_l1Cur_sureProgram_l k (r4.2, ByteArray.empty, (w64 (1 + r4.1)), ())).bind fun r5 =>
   some r5) := by kernel_rfl
theorem spec_l1Cur_one.eq (k : Nat) (c_code : List Int) (c_at : Int) (c_seed : Int) (n : Int) : spec_l1Cur_one (k + 1) ((c_code, c_at, c_seed), n) =
  (spec_l1Cur_pick k ((c_code, c_at, c_seed), n)).bind fun r1 =>
  some ((r1.1 == 0), r1.2) := by kernel_rfl
theorem spec_l1Cur_pick.eq (k : Nat) (c_code : List Int) (c_at : Int) (c_seed : Int) (n : Int) : spec_l1Cur_pick (k + 1) ((c_code, c_at, c_seed), n) =
  cond (decide (n ≤ 1))
  (some (0, (c_code, c_at, c_seed)))
  ((spec_l1Cur_next k (c_code, c_at, c_seed)).bind fun r1 =>
   cond (decide (n > 200))
   ((spec_l1Cur_next k r1.2).bind fun r2 =>
    cond (n != 0)
    (some (((w64 ((w64 (r1.1 * 256)) + r2.1)).tmod n), r2.2))
    (none))
   (cond (n != 0)
    (some ((r1.1.tmod n), r1.2))
    (none))) := by kernel_rfl
theorem spec_l1Cur_next.eq (k : Nat) (c_code : List Int) (c_at : Int) (c_seed : Int) : spec_l1Cur_next (k + 1) (c_code, c_at, c_seed) =
  cond (decide (c_at < (c_code.length : Int)))
  (cond (inB c_at c_code.length)
   (cond (decide ((w64 (c_at + 1)) ≤ (c_code.length : Int)))
    (some ((w64 (c_code.getD c_at.toNat default)), (c_code, (w64 (c_at + 1)), (IntKind.u64.wrap ((IntKind.u64.wrap ((IntKind.u64.wrap (c_seed * 6364136223846793005)) + (IntKind.u64.wrap (w64 (c_code.getD c_at.toNat default))))) + 1442695040888963407)))))
    (some ((w64 (andI .u64 (shrI .u64 (IntKind.u64.wrap ((IntKind.u64.wrap ((IntKind.u64.wrap (c_seed * 6364136223846793005)) + (IntKind.u64.wrap (w64 (c_code.getD c_at.toNat default))))) + 1442695040888963407)) 40) 255)), (c_code, (w64 (c_at + 1)), (IntKind.u64.wrap ((IntKind.u64.wrap ((IntKind.u64.wrap (c_seed * 6364136223846793005)) + (IntKind.u64.wrap (w64 (c_code.getD c_at.toNat default))))) + 1442695040888963407))))))
   (none))
  (cond (decide ((w64 (c_at + 1)) ≤ (c_code.length : Int)))
   (some (0, (c_code, (w64 (c_at + 1)), (IntKind.u64.wrap ((IntKind.u64.wrap ((IntKind.u64.wrap (c_seed * 6364136223846793005)) + 0)) + 1442695040888963407)))))
   (some ((w64 (andI .u64 (shrI .u64 (IntKind.u64.wrap ((IntKind.u64.wrap ((IntKind.u64.wrap (c_seed * 6364136223846793005)) + 0)) + 1442695040888963407)) 40) 255)), (c_code, (w64 (c_at + 1)), (IntKind.u64.wrap ((IntKind.u64.wrap ((IntKind.u64.wrap (c_seed * 6364136223846793005)) + 0)) + 1442695040888963407)))))) := by kernel_rfl
theorem spec_SpiralProgram.eq (k : Nat) (parts : Int) (lefts : List Int) : spec_SpiralProgram (k + 1) (parts, lefts) =
  (spec_l1In k (parts, 1, 9)).bind fun r1 =>
  cond (!r1)
  (some (ByteArray.empty, false))
  ((spec_l1Rising k (lefts, 1, parts)).bind fun r2 =>
   cond (!r2)
   (some (ByteArray.empty, false))
   ((spec_SpiralProgram_l k (parts, lefts, ByteArray.empty, 1)).bind fun r3 =>
    some (r3, true))) := by kernel_rfl
theorem spec_l1In.eq (k : Nat) (n : Int) (lo : Int) (hi : Int) : spec_l1In (k + 1) (n, lo, hi) =
  cond (decide (n ≥ lo))
  (some (decide (n ≤ hi)))
  (some false) := by kernel_rfl
theorem spec_l1Rising.eq (k : Nat) (l : List Int) (lo : Int) (hi : Int) : spec_l1Rising (k + 1) (l, lo, hi) =
  (spec_l1Rising_l k (l, lo, hi, (), (l.length : Int), 0)).bind fun r1 =>
  r1.elim
  (fun r2 => some r2)
  (fun r3 => some true) := by kernel_rfl
theorem spec_l1Rising_l.eq (k : Nat) (l : List Int) (lo : Int) (hi : Int) (t10 : Int) (t11 : Int) : spec_l1Rising_l (k + 1) (l, lo, hi, (), t10, t11) =
  cond (decide (t11 < t10))
  (cond (inB t11 l.length)
   ((spec_l1In k ((l.getD t11.toNat default), lo, hi)).bind fun r1 =>
    cond (!r1)
    (some (.inl false))
    (cond (decide (t11 > 0))
     (cond (inB (w64 (t11 - 1)) l.length)
      (cond (decide ((l.getD ((w64 (t11 - 1)).toNat) default) ≥ (l.getD t11.toNat default)))
       (some (.inl false))
       (spec_l1Rising_l k (l, lo, hi, (), t10, (w64 (t11 + 1)))))
      (none))
     (spec_l1Rising_l k (l, lo, hi, (), t10, (w64 (t11 + 1))))))
   (none))
  (some (.inr ())) := by kernel_rfl
theorem spec_SpiralProgram_l.eq (k : Nat) (parts : Int) (lefts : List Int) (out : ByteArray) (k_ : Int) : spec_SpiralProgram_l (k + 1) (parts, lefts, out, k_) =
  cond (decide (k_ ≤ parts))
  ((spec_l1Num k k_).bind fun r1 =>
   cond (fitS out r1)
   ((spec_l1Has k (lefts, k_)).bind fun r2 =>
    cond r2
    (cond (fitS (out ++ r1) (bs [76]))
     (spec_SpiralProgram_l k (parts, lefts, ((out ++ r1) ++ (bs [76])), (w64 (k_ + 1))))
     (none))
    (cond (fitS (out ++ r1) (bs [82]))
     (spec_SpiralProgram_l k (parts, lefts, ((out ++ r1) ++ (bs [82])), (w64 (k_ + 1))))
     (none)))
   (none))
  (some out) := by kernel_rfl
theorem spec_l1Num.eq (k : Nat) (n : Int) : spec_l1Num (k + 1) n =
  cond (decide (n < 10))
  (some (ofBytes [(w8 (w64 (48 + n)))]))
  ((spec_l1Num k (w64 (n.tdiv 10))).bind fun r1 =>
   cond (fitS r1 (ofBytes [(w8 (w64 (48 + (n.tmod 10))))]))
   (some (r1 ++ (ofBytes [(w8 (w64 (48 + (n.tmod 10))))])))
   (none)) := by kernel_rfl
theorem spec_l1Has.eq (k : Nat) (l : List Int) (n : Int) : spec_l1Has (k + 1) (l, n) =
  (spec_l1Has_l k (n, l, (l.length : Int), 0)).bind fun r1 =>
  r1.elim
  (fun r2 => some r2)
  (fun r3 => some false) := by kernel_rfl
theorem spec_l1Has_l.eq (k : Nat) (n : Int) (t7 : List Int) (t8 : Int) (t9 : Int) : spec_l1Has_l (k + 1) (n, t7, t8, t9) =
  cond (decide (t9 < t8))
  (cond (inB t9 t7.length)
   (cond ((t7.getD t9.toNat default) == n)
    (some (.inl true))
    (spec_l1Has_l k (n, t7, t8, (w64 (t9 + 1)))))
   (none))
  (some (.inr ())) := by kernel_rfl
theorem spec_l1Cur_sureProgram_l.eq (k : Nat) (c_code : List Int) (c_at : Int) (c_seed : Int) (s : ByteArray) (k_ : Int) : spec_l1Cur_sureProgram_l (k + 1) ((c_code, c_at, c_seed), s, k_, ()) =
  cond (decide (k_ > 0))
  ((spec_l1Cur_pick k ((c_code, c_at, c_seed), 5)).bind fun r1 =>
   (spec_l1Num k r1.1).bind fun r2 =>
   (spec_l1Cur_of k (r1.2, [(bs [76]), (bs [82]), (bs [82]), (bs [76]), (bs [78]), (bs [85])])).bind fun r3 =>
   cond (fitS r2 r3.1)
   (cond (fitS s (r2 ++ r3.1))
    (spec_l1Cur_sureProgram_l k (r3.2, (s ++ (r2 ++ r3.1)), (w64 (k_ - 1)), ()))
    (none))
   (none))
  (some (s, (c_code, c_at, c_seed))) := by kernel_rfl
theorem spec_l1Cur_of.eq (k : Nat) (c_code : List Int) (c_at : Int) (c_seed : Int) (list : List ByteArray) : spec_l1Cur_of (k + 1) ((c_code, c_at, c_seed), list) =
  (spec_l1Cur_pick k ((c_code, c_at, c_seed), (list.length : Int))).bind fun r1 =>
  cond (inB r1.1 list.length)
  (some ((list.getD r1.1.toNat default), r1.2))
  (none) := by kernel_rfl
theorem impl_BackProgram.eq (k : Nat) (s : ByteArray) : impl_BackProgram (k + 1) s =
  (impl_IsProgram k s).bind fun r1 =>
  cond (!r1)
  (some (ByteArray.empty, false))
  ((impl_other k s).bind fun r2 =>
   (impl_parts k r2).bind fun r3 =>
   (slices_Reverse k r3).bind fun r4 =>
   (impl_text k r4.2).bind fun r5 =>
   some (r5, true)) := by kernel_rfl
theorem impl_IsProgram.eq (k : Nat) (s : ByteArray) : impl_IsProgram (k + 1) s =
  (impl_IsProgram_l k (s, (s.size : Int), 0)).bind fun r1 =>
  r1.elim
  (fun r2 => some r2)
  (fun r3 => cond (((r3.size : Int).tmod 2) == 0)
   ((impl_within k ((w64 ((r3.size : Int).tdiv 2)), 1, 9)).bind fun r4 =>
    some r4)
   (some false)) := by kernel_rfl
theorem impl_IsProgram_l.eq (k : Nat) (s : ByteArray) (t6 : Int) (t7 : Int) : impl_IsProgram_l (k + 1) (s, t6, t7) =
  cond (decide (t7 < t6))
  (cond (inB t7 s.size)
   ((impl_within k ((w64 (bt s t7.toNat)), 48, 57)).bind fun r1 =>
    cond (!(r1 == ((t7.tmod 2) == 0)))
    (some (.inl false))
    (cond (!r1)
     (cond (((decide ((0 : Int) ≤ (w64 (t7 + 1)))) && (decide ((w64 (t7 + 1)) ≤ (s.size : Int)))) && ((decide ((0 : Int) ≤ t7)) && (decide (t7 ≤ (w64 (t7 + 1))))))
      ((strings_Contains k ((bs [76, 82, 78, 85]), (s.extract t7.toNat ((w64 (t7 + 1)).toNat)))).bind fun r2 =>
       cond (!r2)
       (some (.inl false))
       (impl_IsProgram_l k (s, t6, (w64 (t7 + 1)))))
      (none))
     (impl_IsProgram_l k (s, t6, (w64 (t7 + 1))))))
   (none))
  (some (.inr s)) := by kernel_rfl
theorem impl_within.eq (k : Nat) (n : Int) (low : Int) (high : Int) : impl_within (k + 1) (n, low, high) =
  cond (decide (low ≤ n))
  (some (decide (n ≤ high)))
  (some false) := by kernel_rfl
theorem strings_Contains.eq (k : Nat) (d : ByteArray × ByteArray) : strings_Contains (k + 1) d = (fun d => strContains1 d.1 d.2) d := by kernel_rfl
theorem impl_other.eq (k : Nat) (d : ByteArray) : impl_other (k + 1) d = (fun d => otherB 76 82 d) d := by kernel_rfl
theorem impl_parts.eq (k : Nat) (s : ByteArray) : impl_parts (k + 1) s =
  (impl_parts_l k (s, [], 0)).bind fun r1 =>
  some r1 := by kernel_rfl
theorem impl_parts_l.eq (k : Nat) (s : ByteArray) (out : List (Int × Int)) (k_ : Int) : impl_parts_l (k + 1) (s, out, k_) =
  cond (decide (k_ < (s.size : Int)))
  (cond (inB k_ s.size)
   (cond (inB (w64 (k_ + 1)) s.size)
    (cond (fits (out.length + 1) 16)
     (impl_parts_l k (s, (out ++ [((w64 (w8 ((bt s k_.toNat) - 48))), (bt s ((w64 (k_ + 1)).toNat)))]), (w64 (k_ + 2))))
     (none))
    (none))
   (none))
  (some out) := by kernel_rfl
theorem slices_Reverse.eq (k : Nat) (s : List (Int × Int)) : slices_Reverse (k + 1) s =
  (slices_Reverse_l k (s, 0, (w64 ((s.length : Int) - 1)), ())).bind fun r1 =>
  some ((), r1) := by kernel_rfl
theorem slices_Reverse_l.eq (k : Nat) (s : List (Int × Int)) (i : Int) (j : Int) : slices_Reverse_l (k + 1) (s, i, j, ()) =
  cond (decide (i < j))
  (cond (inB j s.length)
   (cond (inB i s.length)
    (cond (inB i s.length)
     (cond (inB j ((s.set i.toNat (s.getD j.toNat default)).length))
      (slices_Reverse_l k (((s.set i.toNat (s.getD j.toNat default)).set j.toNat (s.getD i.toNat default)), (w64 (i + 1)), (w64 (j - 1)), ()))
      (none))
     (none))
    (none))
   (none))
  (some s) := by kernel_rfl
theorem impl_text.eq (k : Nat) (list : List (Int × Int)) : impl_text (k + 1) list =
  (impl_text_l k ([], list, (list.length : Int), 0)).bind fun r1 =>
  some (ofBytes r1) := by kernel_rfl
theorem impl_text_l.eq (k : Nat) (out : List Int) (t7 : List (Int × Int)) (t8 : Int) (t9 : Int) : impl_text_l (k + 1) (out, t7, t8, t9) =
  cond (decide (t9 < t8))
  (cond (inB t9 t7.length)
   (cond (fits (out.length + 2) 1)
    (impl_text_l k ((out ++ [(w8 (w64 (48 + (t7.getD t9.toNat default).1))), (t7.getD t9.toNat default).2]), t7, t8, (w64 (t9 + 1))))
    (none))
   (none))
  (some out) := by kernel_rfl
theorem spec_BackProgram.eq (k : Nat) (s : ByteArray) : spec_BackProgram (k + 1) s =
  (spec_tuGood k s).bind fun r1 =>
  cond (!r1)
  (some (ByteArray.empty, false))
  ((spec_BackProgram_l k (s, ByteArray.empty, (w64 ((s.size : Int) - 2)))).bind fun r2 =>
   some (r2, true)) := by kernel_rfl
theorem spec_tuGood.eq (k : Nat) (s : ByteArray) : spec_tuGood (k + 1) s =
  cond (((s.size : Int).tmod 2) != 0)
  (some false)
  ((spec_l1In k ((w64 ((s.size : Int).tdiv 2)), 1, 9)).bind fun r1 =>
   cond (!r1)
   (some false)
   ((spec_tuGood_l k (s, 0)).bind fun r2 =>
    r2.elim
    (fun r3 => some r3)
    (fun r4 => some true))) := by kernel_rfl
theorem spec_tuGood_l.eq (k : Nat) (s : ByteArray) (i : Int) : spec_tuGood_l (k + 1) (s, i) =
  cond (decide (i < (s.size : Int)))
  (cond (inB i s.size)
   (cond (decide ((bt s i.toNat) < 48))
    (some (.inl false))
    (cond (inB i s.size)
     (cond (decide ((bt s i.toNat) > 57))
      (some (.inl false))
      (cond (((decide ((0 : Int) ≤ (w64 (i + 2)))) && (decide ((w64 (i + 2)) ≤ (s.size : Int)))) && ((decide ((0 : Int) ≤ (w64 (i + 1)))) && (decide ((w64 (i + 1)) ≤ (w64 (i + 2))))))
       ((spec_woRule k (s.extract ((w64 (i + 1)).toNat) ((w64 (i + 2)).toNat))).bind fun r1 =>
        cond (!r1)
        (some (.inl false))
        (spec_tuGood_l k (s, (w64 (i + 2)))))
       (none)))
     (none)))
   (none))
  (some (.inr ())) := by kernel_rfl
theorem spec_woRule.eq (k : Nat) (rule : ByteArray) : spec_woRule (k + 1) rule =
  (spec_l1In k ((rule.size : Int), 1, 6)).bind fun r1 =>
  cond (!r1)
  (some false)
  ((spec_woRule_l k (rule, 0)).bind fun r2 =>
   r2.elim
   (fun r3 => some r3)
   (fun r4 => some true)) := by kernel_rfl
theorem spec_woRule_l.eq (k : Nat) (rule : ByteArray) (i : Int) : spec_woRule_l (k + 1) (rule, i) =
  cond (decide (i < (rule.size : Int)))
  (cond (inB i rule.size)
   (cond ((bt rule i.toNat) == 76)
    (spec_woRule_l k (rule, (w64 (i + 1))))
    (cond ((bt rule i.toNat) == 82)
     (spec_woRule_l k (rule, (w64 (i + 1))))
     (cond ((bt rule i.toNat) == 78)
      (spec_woRule_l k (rule, (w64 (i + 1))))
      (cond ((bt rule i.toNat) == 85)
       (spec_woRule_l k (rule, (w64 (i + 1))))
       (some (.inl false))))))
   (none))
  (some (.inr ())) := by kernel_rfl
theorem spec_BackProgram_l.eq (k : Nat) (s : ByteArray) (out : ByteArray) (i : Int) : spec_BackProgram_l (k + 1) (s, out, i) =
  cond (decide (i ≥ 0))
  (cond (((decide ((0 : Int) ≤ (w64 (i + 1)))) && (decide ((w64 (i + 1)) ≤ (s.size : Int)))) && ((decide ((0 : Int) ≤ i)) && (decide (i ≤ (w64 (i + 1))))))
   (cond (((decide ((0 : Int) ≤ (w64 (i + 2)))) && (decide ((w64 (i + 2)) ≤ (s.size : Int)))) && ((decide ((0 : Int) ≤ (w64 (i + 1)))) && (decide ((w64 (i + 1)) ≤ (w64 (i + 2))))))
    ((spec_woOther k (s.extract ((w64 (i + 1)).toNat) ((w64 (i + 2)).toNat))).bind fun r1 =>
     cond (fitS (s.extract i.toNat ((w64 (i + 1)).toNat)) r1)
     (cond (fitS out ((s.extract i.toNat ((w64 (i + 1)).toNat)) ++ r1))
      (spec_BackProgram_l k (s, (out ++ ((s.extract i.toNat ((w64 (i + 1)).toNat)) ++ r1)), (w64 (i - 2))))
      (none))
     (none))
    (none))
   (none))
  (some out) := by kernel_rfl
theorem spec_woOther.eq (k : Nat) (rule : ByteArray) : spec_woOther (k + 1) rule =
  (spec_woOther_l k (rule, ByteArray.empty, 0)).bind fun r1 =>
  some r1 := by kernel_rfl
theorem spec_woOther_l.eq (k : Nat) (rule : ByteArray) (out : ByteArray) (i : Int) : spec_woOther_l (k + 1) (rule, out, i) =
  cond (decide (i < (rule.size : Int)))
  (cond (inB i rule.size)
   (cond ((bt rule i.toNat) == 76)
    (cond (fitS out (bs [82]))
     (spec_woOther_l k (rule, (out ++ (bs [82])), (w64 (i + 1))))
     (none))
    (cond ((bt rule i.toNat) == 82)
     (cond (fitS out (bs [76]))
      (spec_woOther_l k (rule, (out ++ (bs [76])), (w64 (i + 1))))
      (none))
     (cond (((decide ((0 : Int) ≤ (w64 (i + 1)))) && (decide ((w64 (i + 1)) ≤ (rule.size : Int)))) && ((decide ((0 : Int) ≤ i)) && (decide (i ≤ (w64 (i + 1))))))
      (cond (fitS out (rule.extract i.toNat ((w64 (i + 1)).toNat)))
       (spec_woOther_l k (rule, (out ++ (rule.extract i.toNat ((w64 (i + 1)).toNat))), (w64 (i + 1))))
       (none))
      (none))))
   (none))
  (some out) := by kernel_rfl
theorem impl_OtherProgram.eq (k : Nat) (s : ByteArray) : impl_OtherProgram (k + 1) s =
  (impl_IsProgram k s).bind fun r1 =>
  cond (!r1)
  (some (ByteArray.empty, false))
  ((impl_other k s).bind fun r2 =>
   some (r2, true)) := by kernel_rfl
theorem spec_OtherProgram.eq (k : Nat) (s : ByteArray) : spec_OtherProgram (k + 1) s =
  (spec_tuGood k s).bind fun r1 =>
  cond (!r1)
  (some (ByteArray.empty, false))
  ((spec_woOther k s).bind fun r2 =>
   some (r2, true)) := by kernel_rfl
theorem impl_QuartersOf.eq (k : Nat) (s : ByteArray) : impl_QuartersOf (k + 1) s =
  (impl_IsProgram k s).bind fun r1 =>
  cond (!r1)
  (some (0, false))
  ((strings_Count k (s, (bs [82]))).bind fun r2 =>
   (strings_Count k (s, (bs [76]))).bind fun r3 =>
   (strings_Count k (s, (bs [85]))).bind fun r4 =>
   some ((w64 ((w64 (r2 - r3)) + (w64 (2 * r4)))), true)) := by kernel_rfl
theorem strings_Count.eq (k : Nat) (d : ByteArray × ByteArray) : strings_Count (k + 1) d = (fun d => strCount1 d.1 d.2) d := by kernel_rfl
theorem impl_PlaceAfter.eq (k : Nat) (s : ByteArray) (repeats : Int) : impl_PlaceAfter (k + 1) (s, repeats) =
  (impl_isRepeated k (s, repeats)).bind fun r1 =>
  cond (!r1)
  (some (0, 0, 0, false))
  ((impl_turtle_walk k ((0, 0, 0), s, repeats, (), ())).bind fun r2 =>
   some (r2.1, r2.2.1, r2.2.2, true)) := by kernel_rfl
theorem impl_isRepeated.eq (k : Nat) (s : ByteArray) (repeats : Int) : impl_isRepeated (k + 1) (s, repeats) =
  (impl_IsProgram k s).bind fun r1 =>
  cond r1
  ((impl_within k (repeats, 0, 100)).bind fun r2 =>
   some r2)
  (some false) := by kernel_rfl
theorem impl_turtle_walk.eq (k : Nat) (t_pointx : Int) (t_pointy : Int) (t_way : Int) (s : ByteArray) (repeats : Int) : impl_turtle_walk (k + 1) ((t_pointx, t_pointy, t_way), s, repeats, (), ()) =
  (impl_turtle_walk_l k (s, (), (), (t_pointx, t_pointy, t_way), (0, 0, 0), repeats, 0)).bind fun r1 =>
  some r1.1 := by kernel_rfl
theorem impl_turtle_walk_l.eq (k : Nat) (s : ByteArray) (t_pointx : Int) (t_pointy : Int) (t_way : Int) (t10_pointx : Int) (t10_pointy : Int) (t10_way : Int) (t15 : Int) (t16 : Int) : impl_turtle_walk_l (k + 1) (s, (), (), (t_pointx, t_pointy, t_way), (t10_pointx, t10_pointy, t10_way), t15, t16) =
  cond (decide (t16 < t15))
  ((impl_parts k s).bind fun r1 =>
   (impl_turtle_walk_l_l k (s, (), (), (t_pointx, t_pointy, t_way), (t10_pointx, t10_pointy, t10_way), t15, t16, r1, (r1.length : Int), 0)).bind fun r2 =>
   impl_turtle_walk_l k (r2.1, (), (), r2.2.2.2.1, r2.2.2.2.2.1, r2.2.2.2.2.2.1, (w64 (r2.2.2.2.2.2.2 + 1))))
  (some ((t_pointx, t_pointy, t_way), (t10_pointx, t10_pointy, t10_way))) := by kernel_rfl
theorem impl_turtle_walk_l_l.eq (k : Nat) (s : ByteArray) (t_pointx : Int) (t_pointy : Int) (t_way : Int) (t10_pointx : Int) (t10_pointy : Int) (t10_way : Int) (t15 : Int) (t16 : Int) (t19 : List (Int × Int)) (t20 : Int) (t21 : Int) : impl_turtle_walk_l_l (k + 1) (s, (), (), (t_pointx, t_pointy, t_way), (t10_pointx, t10_pointy, t10_way), t15, t16, t19, t20, t21) =
  cond (decide (t21 < t20))
  (cond (inB t21 t19.length)
   ((impl_ahead k t_way).bind fun r1 =>
    (impl_turtle_walk_l_l_l k (s, (), (), (t_pointx, t_pointy, t_way), (t10_pointx, t10_pointy, t10_way), (t19.getD t21.toNat default), r1.1, r1.2, t15, t16, t19, t20, t21, (t19.getD t21.toNat default).1, 0)).bind fun r2 =>
    (impl_quarters k r2.2.2.2.2.2.1.2).bind fun r3 =>
    (impl_nothing k (r2.2.2.2.1.1, r2.2.2.2.1.2.1)).bind fun r4 =>
    impl_turtle_walk_l_l k (r2.1, (), (), (r2.2.2.2.1.1, r2.2.2.2.1.2.1, ((w64 (r2.2.2.2.1.2.2 + r3)).tmod 4)), r2.2.2.2.2.1, r2.2.2.2.2.2.2.1, r2.2.2.2.2.2.2.2.1, r2.2.2.2.2.2.2.2.2.1, r2.2.2.2.2.2.2.2.2.2.1, (w64 (r2.2.2.2.2.2.2.2.2.2.2 + 1))))
   (none))
  (some (s, (), (), (t_pointx, t_pointy, t_way), (t10_pointx, t10_pointy, t10_way), t15, t16)) := by kernel_rfl
theorem impl_ahead.eq (k : Nat) (way : Int) : impl_ahead (k + 1) way =
  cond (inB way 4)
  (cond (inB way 4)
   (some ((([0, 1, 0, (-1)] : List Int).getD way.toNat default), (([(-1), 0, 1, 0] : List Int).getD way.toNat default)))
   (none))
  (none) := by kernel_rfl
theorem impl_turtle_walk_l_l_l.eq (k : Nat) (s : ByteArray) (t_pointx : Int) (t_pointy : Int) (t_way : Int) (t10_pointx : Int) (t10_pointy : Int) (t10_way : Int) (p_steps : Int) (p_turn : Int) (x : Int) (y : Int) (t15 : Int) (t16 : Int) (t19 : List (Int × Int)) (t20 : Int) (t21 : Int) (t32 : Int) (t33 : Int) : impl_turtle_walk_l_l_l (k + 1) (s, (), (), (t_pointx, t_pointy, t_way), (t10_pointx, t10_pointy, t10_way), (p_steps, p_turn), x, y, t15, t16, t19, t20, t21, t32, t33) =
  cond (decide (t33 < t32))
  ((impl_nothing k ((w64 (t_pointx + x)), (w64 (t_pointy + y)))).bind fun r1 =>
   impl_turtle_walk_l_l_l k (s, (), (), ((w64 (t_pointx + x)), (w64 (t_pointy + y)), t_way), (t10_pointx, t10_pointy, t10_way), (p_steps, p_turn), x, y, t15, t16, t19, t20, t21, t32, (w64 (t33 + 1))))
  (some (s, (), (), (t_pointx, t_pointy, t_way), (t10_pointx, t10_pointy, t10_way), (p_steps, p_turn), t15, t16, t19, t20, t21)) := by kernel_rfl
theorem impl_nothing.eq (k : Nat) (t0_x : Int) (t0_y : Int) : impl_nothing (k + 1) (t0_x, t0_y) =
  some () := by kernel_rfl
theorem impl_quarters.eq (k : Nat) (sign : Int) : impl_quarters (k + 1) sign =
  cond (sign == 76)
  (some 3)
  (cond (sign == 82)
   (some 1)
   (cond (sign == 85)
    (some 2)
    (some 0))) := by kernel_rfl
theorem impl_LengthOf.eq (k : Nat) (s : ByteArray) (repeats : Int) : impl_LengthOf (k + 1) (s, repeats) =
  (impl_isRepeated k (s, repeats)).bind fun r1 =>
  cond (!r1)
  (some (0, false))
  ((impl_length k (s, repeats)).bind fun r2 =>
   some (r2, true)) := by kernel_rfl
theorem impl_length.eq (k : Nat) (s : ByteArray) (repeats : Int) : impl_length (k + 1) (s, repeats) =
  (impl_parts k s).bind fun r1 =>
  (impl_length_l k (repeats, 0, r1, (r1.length : Int), 0)).bind fun r2 =>
  some (w64 (r2.2 * r2.1)) := by kernel_rfl
theorem impl_length_l.eq (k : Nat) (repeats : Int) (all : Int) (t9 : List (Int × Int)) (t10 : Int) (t11 : Int) : impl_length_l (k + 1) (repeats, all, t9, t10, t11) =
  cond (decide (t11 < t10))
  (cond (inB t11 t9.length)
   (impl_length_l k (repeats, (w64 (all + (t9.getD t11.toNat default).1)), t9, t10, (w64 (t11 + 1))))
   (none))
  (some (repeats, all)) := by kernel_rfl
theorem laws_FnProgramsMade_l.eq (k : Nat) (more : List Int) (s : ByteArray) (a : Int) (b : Int) (around : Int) (t234s : ByteArray) (t234i : Nat) : laws_FnProgramsMade_l (k + 1) (more, s, a, b, around, (t234s, t234i)) =
  cond (decide (t234i < t234s.size))
  (cond (inB (t234i : Int) s.size)
   (cond ((bt s ((t234i : Int).toNat)) == 85)
    (laws_FnProgramsMade_l k (more, s, a, b, (w64 (around + 1)), (t234s, (runeEnd t234s t234i))))
    (laws_FnProgramsMade_l k (more, s, a, b, around, (t234s, (runeEnd t234s t234i)))))
   (none))
  (some (more, a, b, around)) := by kernel_rfl
theorem spec_DrawJoinPrograms.eq (k : Nat) (code : List Int) : spec_DrawJoinPrograms (k + 1) code =
  (spec_l1Cur_program k (code, 0, 0)).bind fun r1 =>
  (spec_l1Cur_program k r1.2).bind fun r2 =>
  some (r1.1, r2.1) := by kernel_rfl
theorem impl_JoinPrograms.eq (k : Nat) (s : ByteArray) (t : ByteArray) : impl_JoinPrograms (k + 1) (s, t) =
  (impl_IsProgram k s).bind fun r1 =>
  cond (!r1)
  (some (ByteArray.empty, false))
  ((impl_IsProgram k t).bind fun r2 =>
   cond (!r2)
   (some (ByteArray.empty, false))
   (cond (fitS s t)
    ((impl_IsProgram k (s ++ t)).bind fun r3 =>
     cond (!r3)
     (some (ByteArray.empty, false))
     (cond (fitS s t)
      (some ((s ++ t), true))
      (none)))
    (none))) := by kernel_rfl
theorem spec_JoinPrograms.eq (k : Nat) (s : ByteArray) (t : ByteArray) : spec_JoinPrograms (k + 1) (s, t) =
  (spec_tuGood k s).bind fun r1 =>
  cond (!r1)
  (some (ByteArray.empty, false))
  ((spec_tuGood k t).bind fun r2 =>
   cond (!r2)
   (some (ByteArray.empty, false))
   (cond (fitS s t)
    ((spec_tuGood k (s ++ t)).bind fun r3 =>
     cond (!r3)
     (some (ByteArray.empty, false))
     (cond (fitS s t)
      (some ((s ++ t), true))
      (none)))
    (none))) := by kernel_rfl
theorem spec_DrawGrowProgram.eq (k : Nat) (code : List Int) : spec_DrawGrowProgram (k + 1) code =
  (spec_l1Cur_program k (code, 0, 0)).bind fun r1 =>
  (spec_l1Cur_among k (r1.2, [1, 2, 3, 9, 10, 0, (-1)])).bind fun r2 =>
  some (r1.1, r2.1) := by kernel_rfl
theorem spec_l1Cur_among.eq (k : Nat) (c_code : List Int) (c_at : Int) (c_seed : Int) (list : List Int) : spec_l1Cur_among (k + 1) ((c_code, c_at, c_seed), list) =
  (spec_l1Cur_pick k ((c_code, c_at, c_seed), (list.length : Int))).bind fun r1 =>
  cond (inB r1.1 list.length)
  (some ((list.getD r1.1.toNat default), r1.2))
  (none) := by kernel_rfl
theorem impl_GrowProgram.eq (k : Nat) (s : ByteArray) (k_ : Int) : impl_GrowProgram (k + 1) (s, k_) =
  (impl_IsProgram k s).bind fun r1 =>
  cond (!r1)
  (some (ByteArray.empty, false))
  ((impl_within k (k_, 1, 9)).bind fun r2 =>
   cond (!r2)
   (some (ByteArray.empty, false))
   ((impl_parts k s).bind fun r3 =>
    (impl_GrowProgram_l k (k_, r3, (r3.length : Int), 0)).bind fun r4 =>
    r4.elim
    (fun r5 => some r5)
    (fun r6 => (impl_text k r6).bind fun r7 =>
     some (r7, true)))) := by kernel_rfl
end Go.Proofs.YtfklcheeoieniaaGreatS
