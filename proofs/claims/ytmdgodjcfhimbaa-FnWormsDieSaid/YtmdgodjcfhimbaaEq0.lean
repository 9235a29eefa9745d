/- What each function computes (printed by wip/sim/gen.py). -/
import Derived.Test.YtmdgodjcfhimbaaTab
namespace Go.Proofs.YtmdgodjcfhimbaaS
open Go Go.Proofs
set_option maxRecDepth 100000
set_option linter.unusedVariables false
theorem laws_FnWormsDie.eq (k : Nat) (code : List Int) (more : List Int) : laws_FnWormsDie (k + 1) (code, more) =
  (laws_big k (code, more)).bind fun r1 =>
  cond r1
  (some true)
  ((spec_DrawLifeOf k code).bind fun r2 =>
   (impl_LifeOf k r2).bind fun r3 =>
   (spec_LifeOf k r2).bind fun r4 =>
   (impl_DeathOf k r2).bind fun r5 =>
   (spec_DeathOf k r2).bind fun r6 =>
   (impl_TrackOfWorm k r2).bind fun r7 =>
   (spec_TrackOfWorm k r2).bind fun r8 =>
   (impl_MealsOfWorm k r2).bind fun r9 =>
   (spec_MealsOfWorm k r2).bind fun r10 =>
   (impl_EatLine k r2).bind fun r11 =>
   (spec_EatLine k r2).bind fun r12 =>
   cond (!(r3.2 == r4.2))
   (some false)
   (cond (r3.1 != r4.1)
    (some false)
    (cond (!(r5.2 == r6.2))
     (some false)
     (cond (!((r5.1.1 == r6.1.1) && ((r5.1.2.1 == r6.1.2.1) && ((r5.1.2.2.1 == r6.1.2.2.1) && ((r5.1.2.2.2.1 == r6.1.2.2.2.1) && ((r5.1.2.2.2.2.1 == r6.1.2.2.2.2.1) && ((r5.1.2.2.2.2.2.1 == r6.1.2.2.2.2.2.1) && ((r5.1.2.2.2.2.2.2 == r6.1.2.2.2.2.2.2) && true))))))))
      (some false)
      (cond (!(r7.2 == r8.2))
       (some false)
       ((laws_dSame k (r7.1, r8.1)).bind fun r13 =>
        cond (!r13)
        (some false)
        (cond (!(r9.2 == r10.2))
         (some false)
         (cond (!(strEq r9.1 r10.1))
          (some false)
          (cond (!(r11.2 == r12.2))
           (some false)
           (cond (!((r11.1.1 == r12.1.1) && ((r11.1.2.1 == r12.1.2.1) && ((r11.1.2.2.1 == r12.1.2.2.1) && ((r11.1.2.2.2.1 == r12.1.2.2.2.1) && ((r11.1.2.2.2.2.1 == r12.1.2.2.2.2.1) && ((r11.1.2.2.2.2.2.1 == r12.1.2.2.2.2.2.1) && ((r11.1.2.2.2.2.2.2 == r12.1.2.2.2.2.2.2) && true))))))))
            (some false)
            ((impl_IsTaste k r2.2).bind fun r14 =>
             (spec_IsTaste k r2.2).bind fun r15 =>
             cond (!(r14 == r15))
             (some false)
             ((impl_IsWorm k r2.1).bind fun r16 =>
              (spec_IsWorm k r2.1).bind fun r17 =>
              cond (!(r16 == r17))
              (some false)
              ((impl_IsTaste k r2.2).bind fun r18 =>
               cond r18
               ((impl_IsWorm k r2.1).bind fun r19 =>
                cond (!(r3.2 == r19))
                (some false)
                (cond (!(r5.2 == r3.2))
                 (some false)
                 (cond (!(r7.2 == r3.2))
                  (some false)
                  (cond (!(r9.2 == r3.2))
                   (some false)
                   (cond r3.2
                    (cond (!(r11.2 == (decide (r3.1 > 0))))
                     (some false)
                     (cond r3.2
                      ((impl_LinesLeft k r2.1).bind fun r20 =>
                       (impl_LinesLeft k r5.1).bind fun r21 =>
                       (impl_LifeOf k (r5.1, r2.2)).bind fun r22 =>
                       cond (!r20.2)
                       (some false)
                       (cond (!r21.2)
                        (some false)
                        (cond ((w64 (r20.1 - r21.1)) != r3.1)
                         (some false)
                         (cond ((r7.1.length : Int) != (w64 (r3.1 + 1)))
                          (some false)
                          (cond ((r9.1.size : Int) != r3.1)
                           (some false)
                           (cond (!r22.2)
                            (some false)
                            (cond (r22.1 != 0)
                             (some false)
                             ((impl_IsWorm k r5.1).bind fun r23 =>
                              cond (!r23)
                              (some false)
                              (cond (inB 0 r7.1.length)
                               (cond ((r7.1.getD 0 default) != (w64 ((w64 (r2.1.2.2.2.2.2.1 * r2.1.1)) + r2.1.2.2.2.2.1)))
                                (some false)
                                (cond (inB r3.1 r7.1.length)
                                 (cond ((r7.1.getD r3.1.toNat default) != (w64 ((w64 (r5.1.2.2.2.2.2.1 * r5.1.1)) + r5.1.2.2.2.2.1)))
                                  (some false)
                                  (cond (decide (r3.1 ≤ 100))
                                   ((impl_WormAfter k (r2.1, r2.2, r3.1)).bind fun r24 =>
                                    cond (!r24.2)
                                    (some false)
                                    (cond (!((r24.1.1 == r5.1.1) && ((r24.1.2.1 == r5.1.2.1) && ((r24.1.2.2.1 == r5.1.2.2.1) && ((r24.1.2.2.2.1 == r5.1.2.2.2.1) && ((r24.1.2.2.2.2.1 == r5.1.2.2.2.2.1) && ((r24.1.2.2.2.2.2.1 == r5.1.2.2.2.2.2.1) && ((r24.1.2.2.2.2.2.2 == r5.1.2.2.2.2.2.2) && true))))))))
                                     (some false)
                                     (cond (r20.1 == (w64 ((w64 (2 * r2.1.1)) * r2.1.2.1)))
                                      (cond (inB r3.1 r7.1.length)
                                       (cond (inB 0 r7.1.length)
                                        (cond ((r7.1.getD r3.1.toNat default) != (r7.1.getD 0 default))
                                         (some false)
                                         (cond r11.2
                                          ((impl_LinesLeft k r2.1).bind fun r25 =>
                                           (impl_LinesLeft k r11.1).bind fun r26 =>
                                           (impl_LifeOf k (r11.1, r2.2)).bind fun r27 =>
                                           (impl_GiveBack k (r11.1, r2.1.2.2.2.2.2.2)).bind fun r28 =>
                                           cond (!r25.2)
                                           (some false)
                                           (cond (!r26.2)
                                            (some false)
                                            (cond (r26.1 != (w64 (r25.1 - 1)))
                                             (some false)
                                             (cond (!r27.2)
                                              (some false)
                                              (cond (r27.1 != (w64 (r3.1 - 1)))
                                               (some false)
                                               (cond (!r28.2)
                                                (some false)
                                                (cond (!((r28.1.1 == r2.1.1) && ((r28.1.2.1 == r2.1.2.1) && ((r28.1.2.2.1 == r2.1.2.2.1) && ((r28.1.2.2.2.1 == r2.1.2.2.2.1) && ((r28.1.2.2.2.2.1 == r2.1.2.2.2.2.1) && ((r28.1.2.2.2.2.2.1 == r2.1.2.2.2.2.2.1) && ((r28.1.2.2.2.2.2.2 == r2.1.2.2.2.2.2.2) && true))))))))
                                                 (some false)
                                                 ((spec_DrawWormAfter k more).bind fun r29 =>
                                                  (impl_WormAfter k r29).bind fun r30 =>
                                                  (spec_WormAfter k r29).bind fun r31 =>
                                                  cond (!(r30.2 == r31.2))
                                                  (some false)
                                                  (cond (!((r30.1.1 == r31.1.1) && ((r30.1.2.1 == r31.1.2.1) && ((r30.1.2.2.1 == r31.1.2.2.1) && ((r30.1.2.2.2.1 == r31.1.2.2.2.1) && ((r30.1.2.2.2.2.1 == r31.1.2.2.2.2.1) && ((r30.1.2.2.2.2.2.1 == r31.1.2.2.2.2.2.1) && ((r30.1.2.2.2.2.2.2 == r31.1.2.2.2.2.2.2) && true))))))))
                                                   (some false)
                                                   (cond r30.2
                                                    (cond (decide (r29.2.2 > 0))
                                                     ((impl_EatLine k (r29.1, r29.2.1)).bind fun r32 =>
                                                      (impl_WormAfter k (r32.1, r29.2.1, (w64 (r29.2.2 - 1)))).bind fun r33 =>
                                                      cond (!r32.2)
                                                      (some false)
                                                      (cond (!r33.2)
                                                       (some false)
                                                       (cond (!((r33.1.1 == r30.1.1) && ((r33.1.2.1 == r30.1.2.1) && ((r33.1.2.2.1 == r30.1.2.2.1) && ((r33.1.2.2.2.1 == r30.1.2.2.2.1) && ((r33.1.2.2.2.2.1 == r30.1.2.2.2.2.1) && ((r33.1.2.2.2.2.2.1 == r30.1.2.2.2.2.2.1) && ((r33.1.2.2.2.2.2.2 == r30.1.2.2.2.2.2.2) && true))))))))
                                                        (some false)
                                                        (some true))))
                                                     (some true))
                                                    (some true)))))))))))
                                          ((spec_DrawWormAfter k more).bind fun r34 =>
                                           (impl_WormAfter k r34).bind fun r35 =>
                                           (spec_WormAfter k r34).bind fun r36 =>
                                           cond (!(r35.2 == r36.2))
                                           (some false)
                                           (cond (!((r35.1.1 == r36.1.1) && ((r35.1.2.1 == r36.1.2.1) && ((r35.1.2.2.1 == r36.1.2.2.1) && ((r35.1.2.2.2.1 == r36.1.2.2.2.1) && ((r35.1.2.2.2.2.1 == r36.1.2.2.2.2.1) && ((r35.1.2.2.2.2.2.1 == r36.1.2.2.2.2.2.1) && ((r35.1.2.2.2.2.2.2 == r36.1.2.2.2.2.2.2) && true))))))))
                                            (some false)
                                            (cond r35.2
                                             (cond (decide (r34.2.2 > 0))
                                              ((impl_EatLine k (r34.1, r34.2.1)).bind fun r37 =>
                                               (impl_WormAfter k (r37.1, r34.2.1, (w64 (r34.2.2 - 1)))).bind fun r38 =>
                                               cond (!r37.2)
                                               (some false)
                                               (cond (!r38.2)
                                                (some false)
                                                (cond (!((r38.1.1 == r35.1.1) && ((r38.1.2.1 == r35.1.2.1) && ((r38.1.2.2.1 == r35.1.2.2.1) && ((r38.1.2.2.2.1 == r35.1.2.2.2.1) && ((r38.1.2.2.2.2.1 == r35.1.2.2.2.2.1) && ((r38.1.2.2.2.2.2.1 == r35.1.2.2.2.2.2.1) && ((r38.1.2.2.2.2.2.2 == r35.1.2.2.2.2.2.2) && true))))))))
                                                 (some false)
                                                 (some true))))
                                              (some true))
                                             (some true))))))
                                        (none))
                                       (none))
                                      (cond r11.2
                                       ((impl_LinesLeft k r2.1).bind fun r39 =>
                                        (impl_LinesLeft k r11.1).bind fun r40 =>
                                        (impl_LifeOf k (r11.1, r2.2)).bind fun r41 =>
                                        (impl_GiveBack k (r11.1, r2.1.2.2.2.2.2.2)).bind fun r42 =>
                                        cond (!r39.2)
                                        (some false)
                                        (cond (!r40.2)
                                         (some false)
                                         (cond (r40.1 != (w64 (r39.1 - 1)))
                                          (some false)
                                          (cond (!r41.2)
                                           (some false)
                                           (cond (r41.1 != (w64 (r3.1 - 1)))
                                            (some false)
                                            (cond (!r42.2)
                                             (some false)
                                             (cond (!((r42.1.1 == r2.1.1) && ((r42.1.2.1 == r2.1.2.1) && ((r42.1.2.2.1 == r2.1.2.2.1) && ((r42.1.2.2.2.1 == r2.1.2.2.2.1) && ((r42.1.2.2.2.2.1 == r2.1.2.2.2.2.1) && ((r42.1.2.2.2.2.2.1 == r2.1.2.2.2.2.2.1) && ((r42.1.2.2.2.2.2.2 == r2.1.2.2.2.2.2.2) && true))))))))
                                              (some false)
                                              ((spec_DrawWormAfter k more).bind fun r43 =>
                                               (impl_WormAfter k r43).bind fun r44 =>
                                               (spec_WormAfter k r43).bind fun r45 =>
                                               cond (!(r44.2 == r45.2))
                                               (some false)
                                               (cond (!((r44.1.1 == r45.1.1) && ((r44.1.2.1 == r45.1.2.1) && ((r44.1.2.2.1 == r45.1.2.2.1) && ((r44.1.2.2.2.1 == r45.1.2.2.2.1) && ((r44.1.2.2.2.2.1 == r45.1.2.2.2.2.1) && ((r44.1.2.2.2.2.2.1 == r45.1.2.2.2.2.2.1) && ((r44.1.2.2.2.2.2.2 == r45.1.2.2.2.2.2.2) && true))))))))
                                                (some false)
                                                (cond r44.2
                                                 (cond (decide (r43.2.2 > 0))
                                                  ((impl_EatLine k (r43.1, r43.2.1)).bind fun r46 =>
                                                   (impl_WormAfter k (r46.1, r43.2.1, (w64 (r43.2.2 - 1)))).bind fun r47 =>
                                                   cond (!r46.2)
                                                   (some false)
                                                   (cond (!r47.2)
                                                    (some false)
                                                    (cond (!((r47.1.1 == r44.1.1) && ((r47.1.2.1 == r44.1.2.1) && ((r47.1.2.2.1 == r44.1.2.2.1) && ((r47.1.2.2.2.1 == r44.1.2.2.2.1) && ((r47.1.2.2.2.2.1 == r44.1.2.2.2.2.1) && ((r47.1.2.2.2.2.2.1 == r44.1.2.2.2.2.2.1) && ((r47.1.2.2.2.2.2.2 == r44.1.2.2.2.2.2.2) && true))))))))
                                                     (some false)
                                                     (some true))))
                                                  (some true))
                                                 (some true)))))))))))
                                       ((spec_DrawWormAfter k more).bind fun r48 =>
                                        (impl_WormAfter k r48).bind fun r49 =>
                                        (spec_WormAfter k r48).bind fun r50 =>
                                        cond (!(r49.2 == r50.2))
                                        (some false)
                                        (cond (!((r49.1.1 == r50.1.1) && ((r49.1.2.1 == r50.1.2.1) && ((r49.1.2.2.1 == r50.1.2.2.1) && ((r49.1.2.2.2.1 == r50.1.2.2.2.1) && ((r49.1.2.2.2.2.1 == r50.1.2.2.2.2.1) && ((r49.1.2.2.2.2.2.1 == r50.1.2.2.2.2.2.1) && ((r49.1.2.2.2.2.2.2 == r50.1.2.2.2.2.2.2) && true))))))))
                                         (some false)
                                         (cond r49.2
                                          (cond (decide (r48.2.2 > 0))
                                           ((impl_EatLine k (r48.1, r48.2.1)).bind fun r51 =>
                                            (impl_WormAfter k (r51.1, r48.2.1, (w64 (r48.2.2 - 1)))).bind fun r52 =>
                                            cond (!r51.2)
                                            (some false)
                                            (cond (!r52.2)
                                             (some false)
                                             (cond (!((r52.1.1 == r49.1.1) && ((r52.1.2.1 == r49.1.2.1) && ((r52.1.2.2.1 == r49.1.2.2.1) && ((r52.1.2.2.2.1 == r49.1.2.2.2.1) && ((r52.1.2.2.2.2.1 == r49.1.2.2.2.2.1) && ((r52.1.2.2.2.2.2.1 == r49.1.2.2.2.2.2.1) && ((r52.1.2.2.2.2.2.2 == r49.1.2.2.2.2.2.2) && true))))))))
                                              (some false)
                                              (some true))))
                                           (some true))
                                          (some true))))))))
                                   (cond (r20.1 == (w64 ((w64 (2 * r2.1.1)) * r2.1.2.1)))
                                    (cond (inB r3.1 r7.1.length)
                                     (cond (inB 0 r7.1.length)
                                      (cond ((r7.1.getD r3.1.toNat default) != (r7.1.getD 0 default))
                                       (some false)
                                       (cond r11.2
                                        ((impl_LinesLeft k r2.1).bind fun r53 =>
                                         (impl_LinesLeft k r11.1).bind fun r54 =>
                                         (impl_LifeOf k (r11.1, r2.2)).bind fun r55 =>
                                         (impl_GiveBack k (r11.1, r2.1.2.2.2.2.2.2)).bind fun r56 =>
                                         cond (!r53.2)
                                         (some false)
                                         (cond (!r54.2)
                                          (some false)
                                          (cond (r54.1 != (w64 (r53.1 - 1)))
                                           (some false)
                                           (cond (!r55.2)
                                            (some false)
                                            (cond (r55.1 != (w64 (r3.1 - 1)))
                                             (some false)
                                             (cond (!r56.2)
                                              (some false)
                                              (cond (!((r56.1.1 == r2.1.1) && ((r56.1.2.1 == r2.1.2.1) && ((r56.1.2.2.1 == r2.1.2.2.1) && ((r56.1.2.2.2.1 == r2.1.2.2.2.1) && ((r56.1.2.2.2.2.1 == r2.1.2.2.2.2.1) && ((r56.1.2.2.2.2.2.1 == r2.1.2.2.2.2.2.1) && ((r56.1.2.2.2.2.2.2 == r2.1.2.2.2.2.2.2) && true))))))))
                                               (some false)
                                               ((spec_DrawWormAfter k more).bind fun r57 =>
                                                (impl_WormAfter k r57).bind fun r58 =>
                                                (spec_WormAfter k r57).bind fun r59 =>
                                                cond (!(r58.2 == r59.2))
                                                (some false)
                                                (cond (!((r58.1.1 == r59.1.1) && ((r58.1.2.1 == r59.1.2.1) && ((r58.1.2.2.1 == r59.1.2.2.1) && ((r58.1.2.2.2.1 == r59.1.2.2.2.1) && ((r58.1.2.2.2.2.1 == r59.1.2.2.2.2.1) && ((r58.1.2.2.2.2.2.1 == r59.1.2.2.2.2.2.1) && ((r58.1.2.2.2.2.2.2 == r59.1.2.2.2.2.2.2) && true))))))))
                                                 (some false)
                                                 (cond r58.2
                                                  (cond (decide (r57.2.2 > 0))
                                                   ((impl_EatLine k (r57.1, r57.2.1)).bind fun r60 =>
                                                    (impl_WormAfter k (r60.1, r57.2.1, (w64 (r57.2.2 - 1)))).bind fun r61 =>
                                                    cond (!r60.2)
                                                    (some false)
                                                    (cond (!r61.2)
                                                     (some false)
                                                     (cond (!((r61.1.1 == r58.1.1) && ((r61.1.2.1 == r58.1.2.1) && ((r61.1.2.2.1 == r58.1.2.2.1) && ((r61.1.2.2.2.1 == r58.1.2.2.2.1) && ((r61.1.2.2.2.2.1 == r58.1.2.2.2.2.1) && ((r61.1.2.2.2.2.2.1 == r58.1.2.2.2.2.2.1) && ((r61.1.2.2.2.2.2.2 == r58.1.2.2.2.2.2.2) && true))))))))
                                                      (some false)
                                                      (some true))))
                                                   (some true))
                                                  (some true)))))))))))
                                        ((spec_DrawWormAfter k more).bind fun r62 =>
                                         (impl_WormAfter k r62).bind fun r63 =>
                                         (spec_WormAfter k r62).bind fun r64 =>
                                         cond (!(r63.2 == r64.2))
                                         (some false)
                                         (cond (!((r63.1.1 == r64.1.1) && ((r63.1.2.1 == r64.1.2.1) && ((r63.1.2.2.1 == r64.1.2.2.1) && ((r63.1.2.2.2.1 == r64.1.2.2.2.1) && ((r63.1.2.2.2.2.1 == r64.1.2.2.2.2.1) && ((r63.1.2.2.2.2.2.1 == r64.1.2.2.2.2.2.1) && ((r63.1.2.2.2.2.2.2 == r64.1.2.2.2.2.2.2) && true))))))))
                                          (some false)
                                          (cond r63.2
                                           (cond (decide (r62.2.2 > 0))
                                            ((impl_EatLine k (r62.1, r62.2.1)).bind fun r65 =>
                                             (impl_WormAfter k (r65.1, r62.2.1, (w64 (r62.2.2 - 1)))).bind fun r66 =>
                                             cond (!r65.2)
                                             (some false)
                                             (cond (!r66.2)
                                              (some false)
                                              (cond (!((r66.1.1 == r63.1.1) && ((r66.1.2.1 == r63.1.2.1) && ((r66.1.2.2.1 == r63.1.2.2.1) && ((r66.1.2.2.2.1 == r63.1.2.2.2.1) && ((r66.1.2.2.2.2.1 == r63.1.2.2.2.2.1) && ((r66.1.2.2.2.2.2.1 == r63.1.2.2.2.2.2.1) && ((r66.1.2.2.2.2.2.2 == r63.1.2.2.2.2.2.2) && true))))))))
                                               (some false)
                                               (some true))))
                                            (some true))
                                           (some true))))))
                                      (none))
                                     (none))
                                    (cond r11.2
                                     ((impl_LinesLeft k r2.1).bind fun r67 =>
                                      (impl_LinesLeft k r11.1).bind fun r68 =>
                                      (impl_LifeOf k (r11.1, r2.2)).bind fun r69 =>
                                      (impl_GiveBack k (r11.1, r2.1.2.2.2.2.2.2)).bind fun r70 =>
                                      cond (!r67.2)
                                      (some false)
                                      (cond (!r68.2)
                                       (some false)
                                       (cond (r68.1 != (w64 (r67.1 - 1)))
                                        (some false)
                                        (cond (!r69.2)
                                         (some false)
                                         (cond (r69.1 != (w64 (r3.1 - 1)))
                                          (some false)
                                          (cond (!r70.2)
                                           (some false)
                                           (cond (!((r70.1.1 == r2.1.1) && ((r70.1.2.1 == r2.1.2.1) && ((r70.1.2.2.1 == r2.1.2.2.1) && ((r70.1.2.2.2.1 == r2.1.2.2.2.1) && ((r70.1.2.2.2.2.1 == r2.1.2.2.2.2.1) && ((r70.1.2.2.2.2.2.1 == r2.1.2.2.2.2.2.1) && ((r70.1.2.2.2.2.2.2 == r2.1.2.2.2.2.2.2) && true))))))))
                                            (some false)
                                            ((spec_DrawWormAfter k more).bind fun r71 =>
                                             (impl_WormAfter k r71).bind fun r72 =>
                                             (spec_WormAfter k r71).bind fun r73 =>
                                             cond (!(r72.2 == r73.2))
                                             (some false)
                                             (cond (!((r72.1.1 == r73.1.1) && ((r72.1.2.1 == r73.1.2.1) && ((r72.1.2.2.1 == r73.1.2.2.1) && ((r72.1.2.2.2.1 == r73.1.2.2.2.1) && ((r72.1.2.2.2.2.1 == r73.1.2.2.2.2.1) && ((r72.1.2.2.2.2.2.1 == r73.1.2.2.2.2.2.1) && ((r72.1.2.2.2.2.2.2 == r73.1.2.2.2.2.2.2) && true))))))))
                                              (some false)
                                              (cond r72.2
                                               (cond (decide (r71.2.2 > 0))
                                                ((impl_EatLine k (r71.1, r71.2.1)).bind fun r74 =>
                                                 (impl_WormAfter k (r74.1, r71.2.1, (w64 (r71.2.2 - 1)))).bind fun r75 =>
                                                 cond (!r74.2)
                                                 (some false)
                                                 (cond (!r75.2)
                                                  (some false)
                                                  (cond (!((r75.1.1 == r72.1.1) && ((r75.1.2.1 == r72.1.2.1) && ((r75.1.2.2.1 == r72.1.2.2.1) && ((r75.1.2.2.2.1 == r72.1.2.2.2.1) && ((r75.1.2.2.2.2.1 == r72.1.2.2.2.2.1) && ((r75.1.2.2.2.2.2.1 == r72.1.2.2.2.2.2.1) && ((r75.1.2.2.2.2.2.2 == r72.1.2.2.2.2.2.2) && true))))))))
                                                   (some false)
                                                   (some true))))
                                                (some true))
                                               (some true)))))))))))
                                     ((spec_DrawWormAfter k more).bind fun r76 =>
                                      (impl_WormAfter k r76).bind fun r77 =>
                                      (spec_WormAfter k r76).bind fun r78 =>
                                      cond (!(r77.2 == r78.2))
                                      (some false)
                                      (cond (!((r77.1.1 == r78.1.1) && ((r77.1.2.1 == r78.1.2.1) && ((r77.1.2.2.1 == r78.1.2.2.1) && ((r77.1.2.2.2.1 == r78.1.2.2.2.1) && ((r77.1.2.2.2.2.1 == r78.1.2.2.2.2.1) && ((r77.1.2.2.2.2.2.1 == r78.1.2.2.2.2.2.1) && ((r77.1.2.2.2.2.2.2 == r78.1.2.2.2.2.2.2) && true))))))))
                                       (some false)
                                       (cond r77.2
                                        (cond (decide (r76.2.2 > 0))
                                         ((impl_EatLine k (r76.1, r76.2.1)).bind fun r79 =>
                                          (impl_WormAfter k (r79.1, r76.2.1, (w64 (r76.2.2 - 1)))).bind fun r80 =>
                                          cond (!r79.2)
                                          (some false)
                                          (cond (!r80.2)
                                           (some false)
                                           (cond (!((r80.1.1 == r77.1.1) && ((r80.1.2.1 == r77.1.2.1) && ((r80.1.2.2.1 == r77.1.2.2.1) && ((r80.1.2.2.2.1 == r77.1.2.2.2.1) && ((r80.1.2.2.2.2.1 == r77.1.2.2.2.2.1) && ((r80.1.2.2.2.2.2.1 == r77.1.2.2.2.2.2.1) && ((r80.1.2.2.2.2.2.2 == r77.1.2.2.2.2.2.2) && true))))))))
                                            (some false)
                                            (some true))))
                                         (some true))
                                        (some true))))))))
                                 (none)))
                               (none))))))))))
                      (cond r11.2
                       ((impl_LinesLeft k r2.1).bind fun r81 =>
                        (impl_LinesLeft k r11.1).bind fun r82 =>
                        (impl_LifeOf k (r11.1, r2.2)).bind fun r83 =>
                        (impl_GiveBack k (r11.1, r2.1.2.2.2.2.2.2)).bind fun r84 =>
                        cond (!r81.2)
                        (some false)
                        (cond (!r82.2)
                         (some false)
                         (cond (r82.1 != (w64 (r81.1 - 1)))
                          (some false)
                          (cond (!r83.2)
                           (some false)
                           (cond (r83.1 != (w64 (r3.1 - 1)))
                            (some false)
                            (cond (!r84.2)
                             (some false)
                             (cond (!((r84.1.1 == r2.1.1) && ((r84.1.2.1 == r2.1.2.1) && ((r84.1.2.2.1 == r2.1.2.2.1) && ((r84.1.2.2.2.1 == r2.1.2.2.2.1) && ((r84.1.2.2.2.2.1 == r2.1.2.2.2.2.1) && ((r84.1.2.2.2.2.2.1 == r2.1.2.2.2.2.2.1) && ((r84.1.2.2.2.2.2.2 == r2.1.2.2.2.2.2.2) && true))))))))
                              (some false)
                              ((spec_DrawWormAfter k more).bind fun r85 =>
                               (impl_WormAfter k r85).bind fun r86 =>
                               (spec_WormAfter k r85).bind fun r87 =>
                               cond (!(r86.2 == r87.2))
                               (some false)
                               (cond (!((r86.1.1 == r87.1.1) && ((r86.1.2.1 == r87.1.2.1) && ((r86.1.2.2.1 == r87.1.2.2.1) && ((r86.1.2.2.2.1 == r87.1.2.2.2.1) && ((r86.1.2.2.2.2.1 == r87.1.2.2.2.2.1) && ((r86.1.2.2.2.2.2.1 == r87.1.2.2.2.2.2.1) && ((r86.1.2.2.2.2.2.2 == r87.1.2.2.2.2.2.2) && true))))))))
                                (some false)
                                (cond r86.2
                                 (cond (decide (r85.2.2 > 0))
                                  ((impl_EatLine k (r85.1, r85.2.1)).bind fun r88 =>
                                   (impl_WormAfter k (r88.1, r85.2.1, (w64 (r85.2.2 - 1)))).bind fun r89 =>
                                   cond (!r88.2)
                                   (some false)
                                   (cond (!r89.2)
                                    (some false)
                                    (cond (!((r89.1.1 == r86.1.1) && ((r89.1.2.1 == r86.1.2.1) && ((r89.1.2.2.1 == r86.1.2.2.1) && ((r89.1.2.2.2.1 == r86.1.2.2.2.1) && ((r89.1.2.2.2.2.1 == r86.1.2.2.2.2.1) && ((r89.1.2.2.2.2.2.1 == r86.1.2.2.2.2.2.1) && ((r89.1.2.2.2.2.2.2 == r86.1.2.2.2.2.2.2) && true))))))))
                                     (some false)
                                     (some true))))
                                  (some true))
                                 (some true)))))))))))
                       ((spec_DrawWormAfter k more).bind fun r90 =>
                        (impl_WormAfter k r90).bind fun r91 =>
                        (spec_WormAfter k r90).bind fun r92 =>
                        cond (!(r91.2 == r92.2))
                        (some false)
                        (cond (!((r91.1.1 == r92.1.1) && ((r91.1.2.1 == r92.1.2.1) && ((r91.1.2.2.1 == r92.1.2.2.1) && ((r91.1.2.2.2.1 == r92.1.2.2.2.1) && ((r91.1.2.2.2.2.1 == r92.1.2.2.2.2.1) && ((r91.1.2.2.2.2.2.1 == r92.1.2.2.2.2.2.1) && ((r91.1.2.2.2.2.2.2 == r92.1.2.2.2.2.2.2) && true))))))))
                         (some false)
                         (cond r91.2
                          (cond (decide (r90.2.2 > 0))
                           ((impl_EatLine k (r90.1, r90.2.1)).bind fun r93 =>
                            (impl_WormAfter k (r93.1, r90.2.1, (w64 (r90.2.2 - 1)))).bind fun r94 =>
                            cond (!r93.2)
                            (some false)
                            (cond (!r94.2)
                             (some false)
                             (cond (!((r94.1.1 == r91.1.1) && ((r94.1.2.1 == r91.1.2.1) && ((r94.1.2.2.1 == r91.1.2.2.1) && ((r94.1.2.2.2.1 == r91.1.2.2.2.1) && ((r94.1.2.2.2.2.1 == r91.1.2.2.2.2.1) && ((r94.1.2.2.2.2.2.1 == r91.1.2.2.2.2.2.1) && ((r94.1.2.2.2.2.2.2 == r91.1.2.2.2.2.2.2) && true))))))))
                              (some false)
                              (some true))))
                           (some true))
                          (some true)))))))
                    (cond (!(r11.2 == false))
                     (some false)
                     (cond r3.2
                      ((impl_LinesLeft k r2.1).bind fun r95 =>
                       (impl_LinesLeft k r5.1).bind fun r96 =>
                       (impl_LifeOf k (r5.1, r2.2)).bind fun r97 =>
                       cond (!r95.2)
                       (some false)
                       (cond (!r96.2)
                        (some false)
                        (cond ((w64 (r95.1 - r96.1)) != r3.1)
                         (some false)
                         (cond ((r7.1.length : Int) != (w64 (r3.1 + 1)))
                          (some false)
                          (cond ((r9.1.size : Int) != r3.1)
                           (some false)
                           (cond (!r97.2)
                            (some false)
                            (cond (r97.1 != 0)
                             (some false)
                             ((impl_IsWorm k r5.1).bind fun r98 =>
                              cond (!r98)
                              (some false)
                              (cond (inB 0 r7.1.length)
                               (cond ((r7.1.getD 0 default) != (w64 ((w64 (r2.1.2.2.2.2.2.1 * r2.1.1)) + r2.1.2.2.2.2.1)))
                                (some false)
                                (cond (inB r3.1 r7.1.length)
                                 (cond ((r7.1.getD r3.1.toNat default) != (w64 ((w64 (r5.1.2.2.2.2.2.1 * r5.1.1)) + r5.1.2.2.2.2.1)))
                                  (some false)
                                  (cond (decide (r3.1 ≤ 100))
                                   ((impl_WormAfter k (r2.1, r2.2, r3.1)).bind fun r99 =>
                                    cond (!r99.2)
                                    (some false)
                                    (cond (!((r99.1.1 == r5.1.1) && ((r99.1.2.1 == r5.1.2.1) && ((r99.1.2.2.1 == r5.1.2.2.1) && ((r99.1.2.2.2.1 == r5.1.2.2.2.1) && ((r99.1.2.2.2.2.1 == r5.1.2.2.2.2.1) && ((r99.1.2.2.2.2.2.1 == r5.1.2.2.2.2.2.1) && ((r99.1.2.2.2.2.2.2 == r5.1.2.2.2.2.2.2) && true))))))))
                                     (some false)
                                     (cond (r95.1 == (w64 ((w64 (2 * r2.1.1)) * r2.1.2.1)))
                                      (cond (inB r3.1 r7.1.length)
                                       (cond (inB 0 r7.1.length)
                                        (cond ((r7.1.getD r3.1.toNat default) != (r7.1.getD 0 default))
                                         (some false)
                                         (cond r11.2
                                          ((impl_LinesLeft k r2.1).bind fun r100 =>
                                           (impl_LinesLeft k r11.1).bind fun r101 =>
                                           (impl_LifeOf k (r11.1, r2.2)).bind fun r102 =>
                                           (impl_GiveBack k (r11.1, r2.1.2.2.2.2.2.2)).bind fun r103 =>
                                           cond (!r100.2)
                                           (some false)
                                           (cond (!r101.2)
                                            (some false)
                                            (cond (r101.1 != (w64 (r100.1 - 1)))
                                             (some false)
                                             (cond (!r102.2)
                                              (some false)
                                              (cond (r102.1 != (w64 (r3.1 - 1)))
                                               (some false)
                                               (cond (!r103.2)
                                                (some false)
                                                (cond (!((r103.1.1 == r2.1.1) && ((r103.1.2.1 == r2.1.2.1) && ((r103.1.2.2.1 == r2.1.2.2.1) && ((r103.1.2.2.2.1 == r2.1.2.2.2.1) && ((r103.1.2.2.2.2.1 == r2.1.2.2.2.2.1) && ((r103.1.2.2.2.2.2.1 == r2.1.2.2.2.2.2.1) && ((r103.1.2.2.2.2.2.2 == r2.1.2.2.2.2.2.2) && true))))))))
                                                 (some false)
                                                 ((spec_DrawWormAfter k more).bind fun r104 =>
                                                  (impl_WormAfter k r104).bind fun r105 =>
                                                  (spec_WormAfter k r104).bind fun r106 =>
                                                  cond (!(r105.2 == r106.2))
                                                  (some false)
                                                  (cond (!((r105.1.1 == r106.1.1) && ((r105.1.2.1 == r106.1.2.1) && ((r105.1.2.2.1 == r106.1.2.2.1) && ((r105.1.2.2.2.1 == r106.1.2.2.2.1) && ((r105.1.2.2.2.2.1 == r106.1.2.2.2.2.1) && ((r105.1.2.2.2.2.2.1 == r106.1.2.2.2.2.2.1) && ((r105.1.2.2.2.2.2.2 == r106.1.2.2.2.2.2.2) && true))))))))
                                                   (some false)
                                                   (cond r105.2
                                                    (cond (decide (r104.2.2 > 0))
                                                     ((impl_EatLine k (r104.1, r104.2.1)).bind fun r107 =>
                                                      (impl_WormAfter k (r107.1, r104.2.1, (w64 (r104.2.2 - 1)))).bind fun r108 =>
                                                      cond (!r107.2)
                                                      (some false)
                                                      (cond (!r108.2)
                                                       (some false)
                                                       (cond (!((r108.1.1 == r105.1.1) && ((r108.1.2.1 == r105.1.2.1) && ((r108.1.2.2.1 == r105.1.2.2.1) && ((r108.1.2.2.2.1 == r105.1.2.2.2.1) && ((r108.1.2.2.2.2.1 == r105.1.2.2.2.2.1) && ((r108.1.2.2.2.2.2.1 == r105.1.2.2.2.2.2.1) && ((r108.1.2.2.2.2.2.2 == r105.1.2.2.2.2.2.2) && true))))))))
                                                        (some false)
                                                        (some true))))
                                                     (some true))
                                                    (some true)))))))))))
                                          ((spec_DrawWormAfter k more).bind fun r109 =>
                                           (impl_WormAfter k r109).bind fun r110 =>
                                           (spec_WormAfter k r109).bind fun r111 =>
                                           cond (!(r110.2 == r111.2))
                                           (some false)
                                           (cond (!((r110.1.1 == r111.1.1) && ((r110.1.2.1 == r111.1.2.1) && ((r110.1.2.2.1 == r111.1.2.2.1) && ((r110.1.2.2.2.1 == r111.1.2.2.2.1) && ((r110.1.2.2.2.2.1 == r111.1.2.2.2.2.1) && ((r110.1.2.2.2.2.2.1 == r111.1.2.2.2.2.2.1) && ((r110.1.2.2.2.2.2.2 == r111.1.2.2.2.2.2.2) && true))))))))
                                            (some false)
                                            (cond r110.2
                                             (cond (decide (r109.2.2 > 0))
                                              ((impl_EatLine k (r109.1, r109.2.1)).bind fun r112 =>
                                               (impl_WormAfter k (r112.1, r109.2.1, (w64 (r109.2.2 - 1)))).bind fun r113 =>
                                               cond (!r112.2)
                                               (some false)
                                               (cond (!r113.2)
                                                (some false)
                                                (cond (!((r113.1.1 == r110.1.1) && ((r113.1.2.1 == r110.1.2.1) && ((r113.1.2.2.1 == r110.1.2.2.1) && ((r113.1.2.2.2.1 == r110.1.2.2.2.1) && ((r113.1.2.2.2.2.1 == r110.1.2.2.2.2.1) && ((r113.1.2.2.2.2.2.1 == r110.1.2.2.2.2.2.1) && ((r113.1.2.2.2.2.2.2 == r110.1.2.2.2.2.2.2) && true))))))))
                                                 (some false)
                                                 (some true))))
                                              (some true))
                                             (some true))))))
                                        (none))
                                       (none))
                                      (cond r11.2
                                       ((impl_LinesLeft k r2.1).bind fun r114 =>
                                        (impl_LinesLeft k r11.1).bind fun r115 =>
                                        (impl_LifeOf k (r11.1, r2.2)).bind fun r116 =>
                                        (impl_GiveBack k (r11.1, r2.1.2.2.2.2.2.2)).bind fun r117 =>
                                        cond (!r114.2)
                                        (some false)
                                        (cond (!r115.2)
                                         (some false)
                                         (cond (r115.1 != (w64 (r114.1 - 1)))
                                          (some false)
                                          (cond (!r116.2)
                                           (some false)
                                           (cond (r116.1 != (w64 (r3.1 - 1)))
                                            (some false)
                                            (cond (!r117.2)
                                             (some false)
                                             (cond (!((r117.1.1 == r2.1.1) && ((r117.1.2.1 == r2.1.2.1) && ((r117.1.2.2.1 == r2.1.2.2.1) && ((r117.1.2.2.2.1 == r2.1.2.2.2.1) && ((r117.1.2.2.2.2.1 == r2.1.2.2.2.2.1) && ((r117.1.2.2.2.2.2.1 == r2.1.2.2.2.2.2.1) && ((r117.1.2.2.2.2.2.2 == r2.1.2.2.2.2.2.2) && true))))))))
                                              (some false)
                                              ((spec_DrawWormAfter k more).bind fun r118 =>
                                               (impl_WormAfter k r118).bind fun r119 =>
                                               (spec_WormAfter k r118).bind fun r120 =>
                                               cond (!(r119.2 == r120.2))
                                               (some false)
                                               (cond (!((r119.1.1 == r120.1.1) && ((r119.1.2.1 == r120.1.2.1) && ((r119.1.2.2.1 == r120.1.2.2.1) && ((r119.1.2.2.2.1 == r120.1.2.2.2.1) && ((r119.1.2.2.2.2.1 == r120.1.2.2.2.2.1) && ((r119.1.2.2.2.2.2.1 == r120.1.2.2.2.2.2.1) && ((r119.1.2.2.2.2.2.2 == r120.1.2.2.2.2.2.2) && true))))))))
                                                (some false)
                                                (cond r119.2
                                                 (cond (decide (r118.2.2 > 0))
                                                  ((impl_EatLine k (r118.1, r118.2.1)).bind fun r121 =>
                                                   (impl_WormAfter k (r121.1, r118.2.1, (w64 (r118.2.2 - 1)))).bind fun r122 =>
                                                   cond (!r121.2)
                                                   (some false)
                                                   (cond (!r122.2)
                                                    (some false)
                                                    (cond (!((r122.1.1 == r119.1.1) && ((r122.1.2.1 == r119.1.2.1) && ((r122.1.2.2.1 == r119.1.2.2.1) && ((r122.1.2.2.2.1 == r119.1.2.2.2.1) && ((r122.1.2.2.2.2.1 == r119.1.2.2.2.2.1) && ((r122.1.2.2.2.2.2.1 == r119.1.2.2.2.2.2.1) && ((r122.1.2.2.2.2.2.2 == r119.1.2.2.2.2.2.2) && true))))))))
                                                     (some false)
                                                     (some true))))
                                                  (some true))
                                                 (some true)))))))))))
                                       ((spec_DrawWormAfter k more).bind fun r123 =>
                                        (impl_WormAfter k r123).bind fun r124 =>
                                        (spec_WormAfter k r123).bind fun r125 =>
                                        cond (!(r124.2 == r125.2))
                                        (some false)
                                        (cond (!((r124.1.1 == r125.1.1) && ((r124.1.2.1 == r125.1.2.1) && ((r124.1.2.2.1 == r125.1.2.2.1) && ((r124.1.2.2.2.1 == r125.1.2.2.2.1) && ((r124.1.2.2.2.2.1 == r125.1.2.2.2.2.1) && ((r124.1.2.2.2.2.2.1 == r125.1.2.2.2.2.2.1) && ((r124.1.2.2.2.2.2.2 == r125.1.2.2.2.2.2.2) && true))))))))
                                         (some false)
                                         (cond r124.2
                                          (cond (decide (r123.2.2 > 0))
                                           ((impl_EatLine k (r123.1, r123.2.1)).bind fun r126 =>
                                            (impl_WormAfter k (r126.1, r123.2.1, (w64 (r123.2.2 - 1)))).bind fun r127 =>
                                            cond (!r126.2)
                                            (some false)
                                            (cond (!r127.2)
                                             (some false)
                                             (cond (!((r127.1.1 == r124.1.1) && ((r127.1.2.1 == r124.1.2.1) && ((r127.1.2.2.1 == r124.1.2.2.1) && ((r127.1.2.2.2.1 == r124.1.2.2.2.1) && ((r127.1.2.2.2.2.1 == r124.1.2.2.2.2.1) && ((r127.1.2.2.2.2.2.1 == r124.1.2.2.2.2.2.1) && ((r127.1.2.2.2.2.2.2 == r124.1.2.2.2.2.2.2) && true))))))))
                                              (some false)
                                              (some true))))
                                           (some true))
                                          (some true))))))))
                                   (cond (r95.1 == (w64 ((w64 (2 * r2.1.1)) * r2.1.2.1)))
                                    (cond (inB r3.1 r7.1.length)
                                     (cond (inB 0 r7.1.length)
                                      (cond ((r7.1.getD r3.1.toNat default) != (r7.1.getD 0 default))
                                       (some false)
                                       (cond r11.2
                                        ((impl_LinesLeft k r2.1).bind fun r128 =>
                                         (impl_LinesLeft k r11.1).bind fun r129 =>
                                         (impl_LifeOf k (r11.1, r2.2)).bind fun r130 =>
                                         (impl_GiveBack k (r11.1, r2.1.2.2.2.2.2.2)).bind fun r131 =>
                                         cond (!r128.2)
                                         (some false)
                                         (cond (!r129.2)
                                          (some false)
                                          (cond (r129.1 != (w64 (r128.1 - 1)))
                                           (some false)
                                           (cond (!r130.2)
                                            (some false)
                                            (cond (r130.1 != (w64 (r3.1 - 1)))
                                             (some false)
                                             (cond (!r131.2)
                                              (some false)
                                              (cond (!((r131.1.1 == r2.1.1) && ((r131.1.2.1 == r2.1.2.1) && ((r131.1.2.2.1 == r2.1.2.2.1) && ((r131.1.2.2.2.1 == r2.1.2.2.2.1) && ((r131.1.2.2.2.2.1 == r2.1.2.2.2.2.1) && ((r131.1.2.2.2.2.2.1 == r2.1.2.2.2.2.2.1) && ((r131.1.2.2.2.2.2.2 == r2.1.2.2.2.2.2.2) && true))))))))
                                               (some false)
                                               ((spec_DrawWormAfter k more).bind fun r132 =>
                                                (impl_WormAfter k r132).bind fun r133 =>
                                                (spec_WormAfter k r132).bind fun r134 =>
                                                cond (!(r133.2 == r134.2))
                                                (some false)
                                                (cond (!((r133.1.1 == r134.1.1) && ((r133.1.2.1 == r134.1.2.1) && ((r133.1.2.2.1 == r134.1.2.2.1) && ((r133.1.2.2.2.1 == r134.1.2.2.2.1) && ((r133.1.2.2.2.2.1 == r134.1.2.2.2.2.1) && ((r133.1.2.2.2.2.2.1 == r134.1.2.2.2.2.2.1) && ((r133.1.2.2.2.2.2.2 == r134.1.2.2.2.2.2.2) && true))))))))
                                                 (some false)
                                                 (cond r133.2
                                                  (cond (decide (r132.2.2 > 0))
                                                   ((impl_EatLine k (r132.1, r132.2.1)).bind fun r135 =>
                                                    (impl_WormAfter k (r135.1, r132.2.1, (w64 (r132.2.2 - 1)))).bind fun r136 =>
                                                    cond (!r135.2)
                                                    (some false)
                                                    (cond (!r136.2)
                                                     (some false)
                                                     (cond (!((r136.1.1 == r133.1.1) && ((r136.1.2.1 == r133.1.2.1) && ((r136.1.2.2.1 == r133.1.2.2.1) && ((r136.1.2.2.2.1 == r133.1.2.2.2.1) && ((r136.1.2.2.2.2.1 == r133.1.2.2.2.2.1) && ((r136.1.2.2.2.2.2.1 == r133.1.2.2.2.2.2.1) && ((r136.1.2.2.2.2.2.2 == r133.1.2.2.2.2.2.2) && true))))))))
                                                      (some false)
                                                      (some true))))
                                                   (some true))
                                                  (some true)))))))))))
                                        ((spec_DrawWormAfter k more).bind fun r137 =>
                                         (impl_WormAfter k r137).bind fun r138 =>
                                         (spec_WormAfter k r137).bind fun r139 =>
                                         cond (!(r138.2 == r139.2))
                                         (some false)
                                         (cond (!((r138.1.1 == r139.1.1) && ((r138.1.2.1 == r139.1.2.1) && ((r138.1.2.2.1 == r139.1.2.2.1) && ((r138.1.2.2.2.1 == r139.1.2.2.2.1) && ((r138.1.2.2.2.2.1 == r139.1.2.2.2.2.1) && ((r138.1.2.2.2.2.2.1 == r139.1.2.2.2.2.2.1) && ((r138.1.2.2.2.2.2.2 == r139.1.2.2.2.2.2.2) && true))))))))
                                          (some false)
                                          (cond r138.2
                                           (cond (decide (r137.2.2 > 0))
                                            ((impl_EatLine k (r137.1, r137.2.1)).bind fun r140 =>
                                             (impl_WormAfter k (r140.1, r137.2.1, (w64 (r137.2.2 - 1)))).bind fun r141 =>
                                             cond (!r140.2)
                                             (some false)
                                             (cond (!r141.2)
                                              (some false)
                                              (cond (!((r141.1.1 == r138.1.1) && ((r141.1.2.1 == r138.1.2.1) && ((r141.1.2.2.1 == r138.1.2.2.1) && ((r141.1.2.2.2.1 == r138.1.2.2.2.1) && ((r141.1.2.2.2.2.1 == r138.1.2.2.2.2.1) && ((r141.1.2.2.2.2.2.1 == r138.1.2.2.2.2.2.1) && ((r141.1.2.2.2.2.2.2 == r138.1.2.2.2.2.2.2) && true))))))))
                                               (some false)
                                               (some true))))
                                            (some true))
                                           (some true))))))
                                      (none))
                                     (none))
                                    (cond r11.2
                                     ((impl_LinesLeft k r2.1).bind fun r142 =>
                                      (impl_LinesLeft k r11.1).bind fun r143 =>
                                      (impl_LifeOf k (r11.1, r2.2)).bind fun r144 =>
                                      (impl_GiveBack k (r11.1, r2.1.2.2.2.2.2.2)).bind fun r145 =>
                                      cond (!r142.2)
                                      (some false)
                                      (cond (!r143.2)
                                       (some false)
                                       (cond (r143.1 != (w64 (r142.1 - 1)))
                                        (some false)
                                        (cond (!r144.2)
                                         (some false)
                                         (cond (r144.1 != (w64 (r3.1 - 1)))
                                          (some false)
                                          (cond (!r145.2)
                                           (some false)
                                           (cond (!((r145.1.1 == r2.1.1) && ((r145.1.2.1 == r2.1.2.1) && ((r145.1.2.2.1 == r2.1.2.2.1) && ((r145.1.2.2.2.1 == r2.1.2.2.2.1) && ((r145.1.2.2.2.2.1 == r2.1.2.2.2.2.1) && ((r145.1.2.2.2.2.2.1 == r2.1.2.2.2.2.2.1) && ((r145.1.2.2.2.2.2.2 == r2.1.2.2.2.2.2.2) && true))))))))
                                            (some false)
                                            ((spec_DrawWormAfter k more).bind fun r146 =>
                                             (impl_WormAfter k r146).bind fun r147 =>
                                             (spec_WormAfter k r146).bind fun r148 =>
                                             cond (!(r147.2 == r148.2))
                                             (some false)
                                             (cond (!((r147.1.1 == r148.1.1) && ((r147.1.2.1 == r148.1.2.1) && ((r147.1.2.2.1 == r148.1.2.2.1) && ((r147.1.2.2.2.1 == r148.1.2.2.2.1) && ((r147.1.2.2.2.2.1 == r148.1.2.2.2.2.1) && ((r147.1.2.2.2.2.2.1 == r148.1.2.2.2.2.2.1) && ((r147.1.2.2.2.2.2.2 == r148.1.2.2.2.2.2.2) && true))))))))
                                              (some false)
                                              (cond r147.2
                                               (cond (decide (r146.2.2 > 0))
                                                ((impl_EatLine k (r146.1, r146.2.1)).bind fun r149 =>
                                                 (impl_WormAfter k (r149.1, r146.2.1, (w64 (r146.2.2 - 1)))).bind fun r150 =>
                                                 cond (!r149.2)
                                                 (some false)
                                                 (cond (!r150.2)
                                                  (some false)
                                                  (cond (!((r150.1.1 == r147.1.1) && ((r150.1.2.1 == r147.1.2.1) && ((r150.1.2.2.1 == r147.1.2.2.1) && ((r150.1.2.2.2.1 == r147.1.2.2.2.1) && ((r150.1.2.2.2.2.1 == r147.1.2.2.2.2.1) && ((r150.1.2.2.2.2.2.1 == r147.1.2.2.2.2.2.1) && ((r150.1.2.2.2.2.2.2 == r147.1.2.2.2.2.2.2) && true))))))))
                                                   (some false)
                                                   (some true))))
                                                (some true))
                                               (some true)))))))))))
                                     ((spec_DrawWormAfter k more).bind fun r151 =>
                                      (impl_WormAfter k r151).bind fun r152 =>
                                      (spec_WormAfter k r151).bind fun r153 =>
                                      cond (!(r152.2 == r153.2))
                                      (some false)
                                      (cond (!((r152.1.1 == r153.1.1) && ((r152.1.2.1 == r153.1.2.1) && ((r152.1.2.2.1 == r153.1.2.2.1) && ((r152.1.2.2.2.1 == r153.1.2.2.2.1) && ((r152.1.2.2.2.2.1 == r153.1.2.2.2.2.1) && ((r152.1.2.2.2.2.2.1 == r153.1.2.2.2.2.2.1) && ((r152.1.2.2.2.2.2.2 == r153.1.2.2.2.2.2.2) && true))))))))
                                       (some false)
                                       (cond r152.2
                                        (cond (decide (r151.2.2 > 0))
                                         ((impl_EatLine k (r151.1, r151.2.1)).bind fun r154 =>
                                          (impl_WormAfter k (r154.1, r151.2.1, (w64 (r151.2.2 - 1)))).bind fun r155 =>
                                          cond (!r154.2)
                                          (some false)
                                          (cond (!r155.2)
                                           (some false)
                                           (cond (!((r155.1.1 == r152.1.1) && ((r155.1.2.1 == r152.1.2.1) && ((r155.1.2.2.1 == r152.1.2.2.1) && ((r155.1.2.2.2.1 == r152.1.2.2.2.1) && ((r155.1.2.2.2.2.1 == r152.1.2.2.2.2.1) && ((r155.1.2.2.2.2.2.1 == r152.1.2.2.2.2.2.1) && ((r155.1.2.2.2.2.2.2 == r152.1.2.2.2.2.2.2) && true))))))))
                                            (some false)
                                            (some true))))
                                         (some true))
                                        (some true))))))))
                                 (none)))
                               (none))))))))))
                      (cond r11.2
                       ((impl_LinesLeft k r2.1).bind fun r156 =>
                        (impl_LinesLeft k r11.1).bind fun r157 =>
                        (impl_LifeOf k (r11.1, r2.2)).bind fun r158 =>
                        (impl_GiveBack k (r11.1, r2.1.2.2.2.2.2.2)).bind fun r159 =>
                        cond (!r156.2)
                        (some false)
                        (cond (!r157.2)
                         (some false)
                         (cond (r157.1 != (w64 (r156.1 - 1)))
                          (some false)
                          (cond (!r158.2)
                           (some false)
                           (cond (r158.1 != (w64 (r3.1 - 1)))
                            (some false)
                            (cond (!r159.2)
                             (some false)
                             (cond (!((r159.1.1 == r2.1.1) && ((r159.1.2.1 == r2.1.2.1) && ((r159.1.2.2.1 == r2.1.2.2.1) && ((r159.1.2.2.2.1 == r2.1.2.2.2.1) && ((r159.1.2.2.2.2.1 == r2.1.2.2.2.2.1) && ((r159.1.2.2.2.2.2.1 == r2.1.2.2.2.2.2.1) && ((r159.1.2.2.2.2.2.2 == r2.1.2.2.2.2.2.2) && true))))))))
                              (some false)
                              ((spec_DrawWormAfter k more).bind fun r160 =>
                               (impl_WormAfter k r160).bind fun r161 =>
                               (spec_WormAfter k r160).bind fun r162 =>
                               cond (!(r161.2 == r162.2))
                               (some false)
                               (cond (!((r161.1.1 == r162.1.1) && ((r161.1.2.1 == r162.1.2.1) && ((r161.1.2.2.1 == r162.1.2.2.1) && ((r161.1.2.2.2.1 == r162.1.2.2.2.1) && ((r161.1.2.2.2.2.1 == r162.1.2.2.2.2.1) && ((r161.1.2.2.2.2.2.1 == r162.1.2.2.2.2.2.1) && ((r161.1.2.2.2.2.2.2 == r162.1.2.2.2.2.2.2) && true))))))))
                                (some false)
                                (cond r161.2
                                 (cond (decide (r160.2.2 > 0))
                                  ((impl_EatLine k (r160.1, r160.2.1)).bind fun r163 =>
                                   (impl_WormAfter k (r163.1, r160.2.1, (w64 (r160.2.2 - 1)))).bind fun r164 =>
                                   cond (!r163.2)
                                   (some false)
                                   (cond (!r164.2)
                                    (some false)
                                    (cond (!((r164.1.1 == r161.1.1) && ((r164.1.2.1 == r161.1.2.1) && ((r164.1.2.2.1 == r161.1.2.2.1) && ((r164.1.2.2.2.1 == r161.1.2.2.2.1) && ((r164.1.2.2.2.2.1 == r161.1.2.2.2.2.1) && ((r164.1.2.2.2.2.2.1 == r161.1.2.2.2.2.2.1) && ((r164.1.2.2.2.2.2.2 == r161.1.2.2.2.2.2.2) && true))))))))
                                     (some false)
                                     (some true))))
                                  (some true))
                                 (some true)))))))))))
                       ((spec_DrawWormAfter k more).bind fun r165 =>
                        (impl_WormAfter k r165).bind fun r166 =>
                        (spec_WormAfter k r165).bind fun r167 =>
                        cond (!(r166.2 == r167.2))
                        (some false)
                        (cond (!((r166.1.1 == r167.1.1) && ((r166.1.2.1 == r167.1.2.1) && ((r166.1.2.2.1 == r167.1.2.2.1) && ((r166.1.2.2.2.1 == r167.1.2.2.2.1) && ((r166.1.2.2.2.2.1 == r167.1.2.2.2.2.1) && ((r166.1.2.2.2.2.2.1 == r167.1.2.2.2.2.2.1) && ((r166.1.2.2.2.2.2.2 == r167.1.2.2.2.2.2.2) && true))))))))
                         (some false)
                         (cond r166.2
                          (cond (decide (r165.2.2 > 0))
                           ((impl_EatLine k (r165.1, r165.2.1)).bind fun r168 =>
                            (impl_WormAfter k (r168.1, r165.2.1, (w64 (r165.2.2 - 1)))).bind fun r169 =>
                            cond (!r168.2)
                            (some false)
                            (cond (!r169.2)
                             (some false)
                             (cond (!((r169.1.1 == r166.1.1) && ((r169.1.2.1 == r166.1.2.1) && ((r169.1.2.2.1 == r166.1.2.2.1) && ((r169.1.2.2.2.1 == r166.1.2.2.2.1) && ((r169.1.2.2.2.2.1 == r166.1.2.2.2.2.1) && ((r169.1.2.2.2.2.2.1 == r166.1.2.2.2.2.2.1) && ((r169.1.2.2.2.2.2.2 == r166.1.2.2.2.2.2.2) && true))))))))
                              (some false)
                              (some true))))
                           (some true))
                          (some true))))))))))))
               (cond (!(r3.2 == false))
                (some false)
                (cond (!(r5.2 == r3.2))
                 (some false)
                 (cond (!(r7.2 == r3.2))
                  (some false)
                  (cond (!(r9.2 == r3.2))
                   (some false)
                   (cond r3.2
                    (cond (!(r11.2 == (decide (r3.1 > 0))))
                     (some false)
                     (cond r3.2
                      ((impl_LinesLeft k r2.1).bind fun r170 =>
                       (impl_LinesLeft k r5.1).bind fun r171 =>
                       (impl_LifeOf k (r5.1, r2.2)).bind fun r172 =>
                       cond (!r170.2)
                       (some false)
                       (cond (!r171.2)
                        (some false)
                        (cond ((w64 (r170.1 - r171.1)) != r3.1)
                         (some false)
                         (cond ((r7.1.length : Int) != (w64 (r3.1 + 1)))
                          (some false)
                          (cond ((r9.1.size : Int) != r3.1)
                           (some false)
                           (cond (!r172.2)
                            (some false)
                            (cond (r172.1 != 0)
                             (some false)
                             ((impl_IsWorm k r5.1).bind fun r173 =>
                              cond (!r173)
                              (some false)
                              (cond (inB 0 r7.1.length)
                               (cond ((r7.1.getD 0 default) != (w64 ((w64 (r2.1.2.2.2.2.2.1 * r2.1.1)) + r2.1.2.2.2.2.1)))
                                (some false)
                                (cond (inB r3.1 r7.1.length)
                                 (cond ((r7.1.getD r3.1.toNat default) != (w64 ((w64 (r5.1.2.2.2.2.2.1 * r5.1.1)) + r5.1.2.2.2.2.1)))
                                  (some false)
                                  (cond (decide (r3.1 ≤ 100))
                                   ((impl_WormAfter k (r2.1, r2.2, r3.1)).bind fun r174 =>
                                    cond (!r174.2)
                                    (some false)
                                    (cond (!((r174.1.1 == r5.1.1) && ((r174.1.2.1 == r5.1.2.1) && ((r174.1.2.2.1 == r5.1.2.2.1) && ((r174.1.2.2.2.1 == r5.1.2.2.2.1) && ((r174.1.2.2.2.2.1 == r5.1.2.2.2.2.1) && ((r174.1.2.2.2.2.2.1 == r5.1.2.2.2.2.2.1) && ((r174.1.2.2.2.2.2.2 == r5.1.2.2.2.2.2.2) && true))))))))
                                     (some false)
                                     (cond (r170.1 == (w64 ((w64 (2 * r2.1.1)) * r2.1.2.1)))
                                      (cond (inB r3.1 r7.1.length)
                                       (cond (inB 0 r7.1.length)
                                        (cond ((r7.1.getD r3.1.toNat default) != (r7.1.getD 0 default))
                                         (some false)
                                         (cond r11.2
                                          ((impl_LinesLeft k r2.1).bind fun r175 =>
                                           (impl_LinesLeft k r11.1).bind fun r176 =>
                                           (impl_LifeOf k (r11.1, r2.2)).bind fun r177 =>
                                           (impl_GiveBack k (r11.1, r2.1.2.2.2.2.2.2)).bind fun r178 =>
                                           cond (!r175.2)
                                           (some false)
                                           (cond (!r176.2)
                                            (some false)
                                            (cond (r176.1 != (w64 (r175.1 - 1)))
                                             (some false)
                                             (cond (!r177.2)
                                              (some false)
                                              (cond (r177.1 != (w64 (r3.1 - 1)))
                                               (some false)
                                               (cond (!r178.2)
                                                (some false)
                                                (cond (!((r178.1.1 == r2.1.1) && ((r178.1.2.1 == r2.1.2.1) && ((r178.1.2.2.1 == r2.1.2.2.1) && ((r178.1.2.2.2.1 == r2.1.2.2.2.1) && ((r178.1.2.2.2.2.1 == r2.1.2.2.2.2.1) && ((r178.1.2.2.2.2.2.1 == r2.1.2.2.2.2.2.1) && ((r178.1.2.2.2.2.2.2 == r2.1.2.2.2.2.2.2) && true))))))))
                                                 (some false)
                                                 ((spec_DrawWormAfter k more).bind fun r179 =>
                                                  (impl_WormAfter k r179).bind fun r180 =>
                                                  (spec_WormAfter k r179).bind fun r181 =>
                                                  cond (!(r180.2 == r181.2))
                                                  (some false)
                                                  (cond (!((r180.1.1 == r181.1.1) && ((r180.1.2.1 == r181.1.2.1) && ((r180.1.2.2.1 == r181.1.2.2.1) && ((r180.1.2.2.2.1 == r181.1.2.2.2.1) && ((r180.1.2.2.2.2.1 == r181.1.2.2.2.2.1) && ((r180.1.2.2.2.2.2.1 == r181.1.2.2.2.2.2.1) && ((r180.1.2.2.2.2.2.2 == r181.1.2.2.2.2.2.2) && true))))))))
                                                   (some false)
                                                   (cond r180.2
                                                    (cond (decide (r179.2.2 > 0))
                                                     ((impl_EatLine k (r179.1, r179.2.1)).bind fun r182 =>
                                                      (impl_WormAfter k (r182.1, r179.2.1, (w64 (r179.2.2 - 1)))).bind fun r183 =>
                                                      cond (!r182.2)
                                                      (some false)
                                                      (cond (!r183.2)
                                                       (some false)
                                                       (cond (!((r183.1.1 == r180.1.1) && ((r183.1.2.1 == r180.1.2.1) && ((r183.1.2.2.1 == r180.1.2.2.1) && ((r183.1.2.2.2.1 == r180.1.2.2.2.1) && ((r183.1.2.2.2.2.1 == r180.1.2.2.2.2.1) && ((r183.1.2.2.2.2.2.1 == r180.1.2.2.2.2.2.1) && ((r183.1.2.2.2.2.2.2 == r180.1.2.2.2.2.2.2) && true))))))))
                                                        (some false)
                                                        (some true))))
                                                     (some true))
                                                    (some true)))))))))))
                                          ((spec_DrawWormAfter k more).bind fun r184 =>
                                           (impl_WormAfter k r184).bind fun r185 =>
                                           (spec_WormAfter k r184).bind fun r186 =>
                                           cond (!(r185.2 == r186.2))
                                           (some false)
                                           (cond (!((r185.1.1 == r186.1.1) && ((r185.1.2.1 == r186.1.2.1) && ((r185.1.2.2.1 == r186.1.2.2.1) && ((r185.1.2.2.2.1 == r186.1.2.2.2.1) && ((r185.1.2.2.2.2.1 == r186.1.2.2.2.2.1) && ((r185.1.2.2.2.2.2.1 == r186.1.2.2.2.2.2.1) && ((r185.1.2.2.2.2.2.2 == r186.1.2.2.2.2.2.2) && true))))))))
                                            (some false)
                                            (cond r185.2
                                             (cond (decide (r184.2.2 > 0))
                                              ((impl_EatLine k (r184.1, r184.2.1)).bind fun r187 =>
                                               (impl_WormAfter k (r187.1, r184.2.1, (w64 (r184.2.2 - 1)))).bind fun r188 =>
                                               cond (!r187.2)
                                               (some false)
                                               (cond (!r188.2)
                                                (some false)
                                                (cond (!((r188.1.1 == r185.1.1) && ((r188.1.2.1 == r185.1.2.1) && ((r188.1.2.2.1 == r185.1.2.2.1) && ((r188.1.2.2.2.1 == r185.1.2.2.2.1) && ((r188.1.2.2.2.2.1 == r185.1.2.2.2.2.1) && ((r188.1.2.2.2.2.2.1 == r185.1.2.2.2.2.2.1) && ((r188.1.2.2.2.2.2.2 == r185.1.2.2.2.2.2.2) && true))))))))
                                                 (some false)
                                                 (some true))))
                                              (some true))
                                             (some true))))))
                                        (none))
                                       (none))
                                      (cond r11.2
                                       ((impl_LinesLeft k r2.1).bind fun r189 =>
                                        (impl_LinesLeft k r11.1).bind fun r190 =>
                                        (impl_LifeOf k (r11.1, r2.2)).bind fun r191 =>
                                        (impl_GiveBack k (r11.1, r2.1.2.2.2.2.2.2)).bind fun r192 =>
                                        cond (!r189.2)
                                        (some false)
                                        (cond (!r190.2)
                                         (some false)
                                         (cond (r190.1 != (w64 (r189.1 - 1)))
                                          (some false)
                                          (cond (!r191.2)
                                           (some false)
                                           (cond (r191.1 != (w64 (r3.1 - 1)))
                                            (some false)
                                            (cond (!r192.2)
                                             (some false)
                                             (cond (!((r192.1.1 == r2.1.1) && ((r192.1.2.1 == r2.1.2.1) && ((r192.1.2.2.1 == r2.1.2.2.1) && ((r192.1.2.2.2.1 == r2.1.2.2.2.1) && ((r192.1.2.2.2.2.1 == r2.1.2.2.2.2.1) && ((r192.1.2.2.2.2.2.1 == r2.1.2.2.2.2.2.1) && ((r192.1.2.2.2.2.2.2 == r2.1.2.2.2.2.2.2) && true))))))))
                                              (some false)
                                              ((spec_DrawWormAfter k more).bind fun r193 =>
                                               (impl_WormAfter k r193).bind fun r194 =>
                                               (spec_WormAfter k r193).bind fun r195 =>
                                               cond (!(r194.2 == r195.2))
                                               (some false)
                                               (cond (!((r194.1.1 == r195.1.1) && ((r194.1.2.1 == r195.1.2.1) && ((r194.1.2.2.1 == r195.1.2.2.1) && ((r194.1.2.2.2.1 == r195.1.2.2.2.1) && ((r194.1.2.2.2.2.1 == r195.1.2.2.2.2.1) && ((r194.1.2.2.2.2.2.1 == r195.1.2.2.2.2.2.1) && ((r194.1.2.2.2.2.2.2 == r195.1.2.2.2.2.2.2) && true))))))))
                                                (some false)
                                                (cond r194.2
                                                 (cond (decide (r193.2.2 > 0))
                                                  ((impl_EatLine k (r193.1, r193.2.1)).bind fun r196 =>
                                                   (impl_WormAfter k (r196.1, r193.2.1, (w64 (r193.2.2 - 1)))).bind fun r197 =>
                                                   cond (!r196.2)
                                                   (some false)
                                                   (cond (!r197.2)
                                                    (some false)
                                                    (cond (!((r197.1.1 == r194.1.1) && ((r197.1.2.1 == r194.1.2.1) && ((r197.1.2.2.1 == r194.1.2.2.1) && ((r197.1.2.2.2.1 == r194.1.2.2.2.1) && ((r197.1.2.2.2.2.1 == r194.1.2.2.2.2.1) && ((r197.1.2.2.2.2.2.1 == r194.1.2.2.2.2.2.1) && ((r197.1.2.2.2.2.2.2 == r194.1.2.2.2.2.2.2) && true))))))))
                                                     (some false)
                                                     (some true))))
                                                  (some true))
                                                 (some true)))))))))))
                                       ((spec_DrawWormAfter k more).bind fun r198 =>
                                        (impl_WormAfter k r198).bind fun r199 =>
                                        (spec_WormAfter k r198).bind fun r200 =>
                                        cond (!(r199.2 == r200.2))
                                        (some false)
                                        (cond (!((r199.1.1 == r200.1.1) && ((r199.1.2.1 == r200.1.2.1) && ((r199.1.2.2.1 == r200.1.2.2.1) && ((r199.1.2.2.2.1 == r200.1.2.2.2.1) && ((r199.1.2.2.2.2.1 == r200.1.2.2.2.2.1) && ((r199.1.2.2.2.2.2.1 == r200.1.2.2.2.2.2.1) && ((r199.1.2.2.2.2.2.2 == r200.1.2.2.2.2.2.2) && true))))))))
                                         (some false)
                                         (cond r199.2
                                          (cond (decide (r198.2.2 > 0))
                                           ((impl_EatLine k (r198.1, r198.2.1)).bind fun r201 =>
                                            (impl_WormAfter k (r201.1, r198.2.1, (w64 (r198.2.2 - 1)))).bind fun r202 =>
                                            cond (!r201.2)
                                            (some false)
                                            (cond (!r202.2)
                                             (some false)
                                             (cond (!((r202.1.1 == r199.1.1) && ((r202.1.2.1 == r199.1.2.1) && ((r202.1.2.2.1 == r199.1.2.2.1) && ((r202.1.2.2.2.1 == r199.1.2.2.2.1) && ((r202.1.2.2.2.2.1 == r199.1.2.2.2.2.1) && ((r202.1.2.2.2.2.2.1 == r199.1.2.2.2.2.2.1) && ((r202.1.2.2.2.2.2.2 == r199.1.2.2.2.2.2.2) && true))))))))
                                              (some false)
                                              (some true))))
                                           (some true))
                                          (some true))))))))
                                   (cond (r170.1 == (w64 ((w64 (2 * r2.1.1)) * r2.1.2.1)))
                                    (cond (inB r3.1 r7.1.length)
                                     (cond (inB 0 r7.1.length)
                                      (cond ((r7.1.getD r3.1.toNat default) != (r7.1.getD 0 default))
                                       (some false)
                                       (cond r11.2
                                        ((impl_LinesLeft k r2.1).bind fun r203 =>
                                         (impl_LinesLeft k r11.1).bind fun r204 =>
                                         (impl_LifeOf k (r11.1, r2.2)).bind fun r205 =>
                                         (impl_GiveBack k (r11.1, r2.1.2.2.2.2.2.2)).bind fun r206 =>
                                         cond (!r203.2)
                                         (some false)
                                         (cond (!r204.2)
                                          (some false)
                                          (cond (r204.1 != (w64 (r203.1 - 1)))
                                           (some false)
                                           (cond (!r205.2)
                                            (some false)
                                            (cond (r205.1 != (w64 (r3.1 - 1)))
                                             (some false)
                                             (cond (!r206.2)
                                              (some false)
                                              (cond (!((r206.1.1 == r2.1.1) && ((r206.1.2.1 == r2.1.2.1) && ((r206.1.2.2.1 == r2.1.2.2.1) && ((r206.1.2.2.2.1 == r2.1.2.2.2.1) && ((r206.1.2.2.2.2.1 == r2.1.2.2.2.2.1) && ((r206.1.2.2.2.2.2.1 == r2.1.2.2.2.2.2.1) && ((r206.1.2.2.2.2.2.2 == r2.1.2.2.2.2.2.2) && true))))))))
                                               (some false)
                                               ((spec_DrawWormAfter k more).bind fun r207 =>
                                                (impl_WormAfter k r207).bind fun r208 =>
                                                (spec_WormAfter k r207).bind fun r209 =>
                                                cond (!(r208.2 == r209.2))
                                                (some false)
                                                (cond (!((r208.1.1 == r209.1.1) && ((r208.1.2.1 == r209.1.2.1) && ((r208.1.2.2.1 == r209.1.2.2.1) && ((r208.1.2.2.2.1 == r209.1.2.2.2.1) && ((r208.1.2.2.2.2.1 == r209.1.2.2.2.2.1) && ((r208.1.2.2.2.2.2.1 == r209.1.2.2.2.2.2.1) && ((r208.1.2.2.2.2.2.2 == r209.1.2.2.2.2.2.2) && true))))))))
                                                 (some false)
                                                 (cond r208.2
                                                  (cond (decide (r207.2.2 > 0))
                                                   ((impl_EatLine k (r207.1, r207.2.1)).bind fun r210 =>
                                                    (impl_WormAfter k (r210.1, r207.2.1, (w64 (r207.2.2 - 1)))).bind fun r211 =>
                                                    cond (!r210.2)
                                                    (some false)
                                                    (cond (!r211.2)
                                                     (some false)
                                                     (cond (!((r211.1.1 == r208.1.1) && ((r211.1.2.1 == r208.1.2.1) && ((r211.1.2.2.1 == r208.1.2.2.1) && ((r211.1.2.2.2.1 == r208.1.2.2.2.1) && ((r211.1.2.2.2.2.1 == r208.1.2.2.2.2.1) && ((r211.1.2.2.2.2.2.1 == r208.1.2.2.2.2.2.1) && ((r211.1.2.2.2.2.2.2 == r208.1.2.2.2.2.2.2) && true))))))))
                                                      (some false)
                                                      (some true))))
                                                   (some true))
                                                  (some true)))))))))))
                                        ((spec_DrawWormAfter k more).bind fun r212 =>
                                         (impl_WormAfter k r212).bind fun r213 =>
                                         (spec_WormAfter k r212).bind fun r214 =>
                                         cond (!(r213.2 == r214.2))
                                         (some false)
                                         (cond (!((r213.1.1 == r214.1.1) && ((r213.1.2.1 == r214.1.2.1) && ((r213.1.2.2.1 == r214.1.2.2.1) && ((r213.1.2.2.2.1 == r214.1.2.2.2.1) && ((r213.1.2.2.2.2.1 == r214.1.2.2.2.2.1) && ((r213.1.2.2.2.2.2.1 == r214.1.2.2.2.2.2.1) && ((r213.1.2.2.2.2.2.2 == r214.1.2.2.2.2.2.2) && true))))))))
                                          (some false)
                                          (cond r213.2
                                           (cond (decide (r212.2.2 > 0))
                                            ((impl_EatLine k (r212.1, r212.2.1)).bind fun r215 =>
                                             (impl_WormAfter k (r215.1, r212.2.1, (w64 (r212.2.2 - 1)))).bind fun r216 =>
                                             cond (!r215.2)
                                             (some false)
                                             (cond (!r216.2)
                                              (some false)
                                              (cond (!((r216.1.1 == r213.1.1) && ((r216.1.2.1 == r213.1.2.1) && ((r216.1.2.2.1 == r213.1.2.2.1) && ((r216.1.2.2.2.1 == r213.1.2.2.2.1) && ((r216.1.2.2.2.2.1 == r213.1.2.2.2.2.1) && ((r216.1.2.2.2.2.2.1 == r213.1.2.2.2.2.2.1) && ((r216.1.2.2.2.2.2.2 == r213.1.2.2.2.2.2.2) && true))))))))
                                               (some false)
                                               (some true))))
                                            (some true))
                                           (some true))))))
                                      (none))
                                     (none))
                                    (cond r11.2
                                     ((impl_LinesLeft k r2.1).bind fun r217 =>
                                      (impl_LinesLeft k r11.1).bind fun r218 =>
                                      (impl_LifeOf k (r11.1, r2.2)).bind fun r219 =>
                                      (impl_GiveBack k (r11.1, r2.1.2.2.2.2.2.2)).bind fun r220 =>
                                      cond (!r217.2)
                                      (some false)
                                      (cond (!r218.2)
                                       (some false)
                                       (cond (r218.1 != (w64 (r217.1 - 1)))
                                        (some false)
                                        (cond (!r219.2)
                                         (some false)
                                         (cond (r219.1 != (w64 (r3.1 - 1)))
                                          (some false)
                                          (cond (!r220.2)
                                           (some false)
                                           (cond (!((r220.1.1 == r2.1.1) && ((r220.1.2.1 == r2.1.2.1) && ((r220.1.2.2.1 == r2.1.2.2.1) && ((r220.1.2.2.2.1 == r2.1.2.2.2.1) && ((r220.1.2.2.2.2.1 == r2.1.2.2.2.2.1) && ((r220.1.2.2.2.2.2.1 == r2.1.2.2.2.2.2.1) && ((r220.1.2.2.2.2.2.2 == r2.1.2.2.2.2.2.2) && true))))))))
                                            (some false)
                                            ((spec_DrawWormAfter k more).bind fun r221 =>
                                             (impl_WormAfter k r221).bind fun r222 =>
                                             (spec_WormAfter k r221).bind fun r223 =>
                                             cond (!(r222.2 == r223.2))
                                             (some false)
                                             (cond (!((r222.1.1 == r223.1.1) && ((r222.1.2.1 == r223.1.2.1) && ((r222.1.2.2.1 == r223.1.2.2.1) && ((r222.1.2.2.2.1 == r223.1.2.2.2.1) && ((r222.1.2.2.2.2.1 == r223.1.2.2.2.2.1) && ((r222.1.2.2.2.2.2.1 == r223.1.2.2.2.2.2.1) && ((r222.1.2.2.2.2.2.2 == r223.1.2.2.2.2.2.2) && true))))))))
                                              (some false)
                                              (cond r222.2
                                               (cond (decide (r221.2.2 > 0))
                                                ((impl_EatLine k (r221.1, r221.2.1)).bind fun r224 =>
                                                 (impl_WormAfter k (r224.1, r221.2.1, (w64 (r221.2.2 - 1)))).bind fun r225 =>
                                                 cond (!r224.2)
                                                 (some false)
                                                 (cond (!r225.2)
                                                  (some false)
                                                  (cond (!((r225.1.1 == r222.1.1) && ((r225.1.2.1 == r222.1.2.1) && ((r225.1.2.2.1 == r222.1.2.2.1) && ((r225.1.2.2.2.1 == r222.1.2.2.2.1) && ((r225.1.2.2.2.2.1 == r222.1.2.2.2.2.1) && ((r225.1.2.2.2.2.2.1 == r222.1.2.2.2.2.2.1) && ((r225.1.2.2.2.2.2.2 == r222.1.2.2.2.2.2.2) && true))))))))
                                                   (some false)
                                                   (some true))))
                                                (some true))
                                               (some true)))))))))))
                                     ((spec_DrawWormAfter k more).bind fun r226 =>
                                      (impl_WormAfter k r226).bind fun r227 =>
                                      (spec_WormAfter k r226).bind fun r228 =>
                                      cond (!(r227.2 == r228.2))
                                      (some false)
                                      (cond (!((r227.1.1 == r228.1.1) && ((r227.1.2.1 == r228.1.2.1) && ((r227.1.2.2.1 == r228.1.2.2.1) && ((r227.1.2.2.2.1 == r228.1.2.2.2.1) && ((r227.1.2.2.2.2.1 == r228.1.2.2.2.2.1) && ((r227.1.2.2.2.2.2.1 == r228.1.2.2.2.2.2.1) && ((r227.1.2.2.2.2.2.2 == r228.1.2.2.2.2.2.2) && true))))))))
                                       (some false)
                                       (cond r227.2
                                        (cond (decide (r226.2.2 > 0))
                                         ((impl_EatLine k (r226.1, r226.2.1)).bind fun r229 =>
                                          (impl_WormAfter k (r229.1, r226.2.1, (w64 (r226.2.2 - 1)))).bind fun r230 =>
                                          cond (!r229.2)
                                          (some false)
                                          (cond (!r230.2)
                                           (some false)
                                           (cond (!((r230.1.1 == r227.1.1) && ((r230.1.2.1 == r227.1.2.1) && ((r230.1.2.2.1 == r227.1.2.2.1) && ((r230.1.2.2.2.1 == r227.1.2.2.2.1) && ((r230.1.2.2.2.2.1 == r227.1.2.2.2.2.1) && ((r230.1.2.2.2.2.2.1 == r227.1.2.2.2.2.2.1) && ((r230.1.2.2.2.2.2.2 == r227.1.2.2.2.2.2.2) && true))))))))
                                            (some false)
                                            (some true))))
                                         (some true))
                                        (some true))))))))
                                 (none)))
                               (none))))))))))
                      (cond r11.2
                       ((impl_LinesLeft k r2.1).bind fun r231 =>
                        (impl_LinesLeft k r11.1).bind fun r232 =>
                        (impl_LifeOf k (r11.1, r2.2)).bind fun r233 =>
                        (impl_GiveBack k (r11.1, r2.1.2.2.2.2.2.2)).bind fun r234 =>
                        cond (!r231.2)
                        (some false)
                        (cond (!r232.2)
                         (some false)
                         (cond (r232.1 != (w64 (r231.1 - 1)))
                          (some false)
                          (cond (!r233.2)
                           (some false)
                           (cond (r233.1 != (w64 (r3.1 - 1)))
                            (some false)
                            (cond (!r234.2)
                             (some false)
                             (cond (!((r234.1.1 == r2.1.1) && ((r234.1.2.1 == r2.1.2.1) && ((r234.1.2.2.1 == r2.1.2.2.1) && ((r234.1.2.2.2.1 == r2.1.2.2.2.1) && ((r234.1.2.2.2.2.1 == r2.1.2.2.2.2.1) && ((r234.1.2.2.2.2.2.1 == r2.1.2.2.2.2.2.1) && ((r234.1.2.2.2.2.2.2 == r2.1.2.2.2.2.2.2) && true))))))))
                              (some false)
                              ((spec_DrawWormAfter k more).bind fun r235 =>
                               (impl_WormAfter k r235).bind fun r236 =>
                               (spec_WormAfter k r235).bind fun r237 =>
                               cond (!(r236.2 == r237.2))
                               (some false)
                               (cond (!((r236.1.1 == r237.1.1) && ((r236.1.2.1 == r237.1.2.1) && ((r236.1.2.2.1 == r237.1.2.2.1) && ((r236.1.2.2.2.1 == r237.1.2.2.2.1) && ((r236.1.2.2.2.2.1 == r237.1.2.2.2.2.1) && ((r236.1.2.2.2.2.2.1 == r237.1.2.2.2.2.2.1) && ((r236.1.2.2.2.2.2.2 == r237.1.2.2.2.2.2.2) && true))))))))
                                (some false)
                                (cond r236.2
                                 (cond (decide (r235.2.2 > 0))
                                  ((impl_EatLine k (r235.1, r235.2.1)).bind fun r238 =>
                                   (impl_WormAfter k (r238.1, r235.2.1, (w64 (r235.2.2 - 1)))).bind fun r239 =>
                                   cond (!r238.2)
                                   (some false)
                                   (cond (!r239.2)
                                    (some false)
                                    (cond (!((r239.1.1 == r236.1.1) && ((r239.1.2.1 == r236.1.2.1) && ((r239.1.2.2.1 == r236.1.2.2.1) && ((r239.1.2.2.2.1 == r236.1.2.2.2.1) && ((r239.1.2.2.2.2.1 == r236.1.2.2.2.2.1) && ((r239.1.2.2.2.2.2.1 == r236.1.2.2.2.2.2.1) && ((r239.1.2.2.2.2.2.2 == r236.1.2.2.2.2.2.2) && true))))))))
                                     (some false)
                                     (some true))))
                                  (some true))
                                 (some true)))))))))))
                       ((spec_DrawWormAfter k more).bind fun r240 =>
                        (impl_WormAfter k r240).bind fun r241 =>
                        (spec_WormAfter k r240).bind fun r242 =>
                        cond (!(r241.2 == r242.2))
                        (some false)
                        (cond (!((r241.1.1 == r242.1.1) && ((r241.1.2.1 == r242.1.2.1) && ((r241.1.2.2.1 == r242.1.2.2.1) && ((r241.1.2.2.2.1 == r242.1.2.2.2.1) && ((r241.1.2.2.2.2.1 == r242.1.2.2.2.2.1) && ((r241.1.2.2.2.2.2.1 == r242.1.2.2.2.2.2.1) && ((r241.1.2.2.2.2.2.2 == r242.1.2.2.2.2.2.2) && true))))))))
                         (some false)
                         (cond r241.2
                          (cond (decide (r240.2.2 > 0))
                           ((impl_EatLine k (r240.1, r240.2.1)).bind fun r243 =>
                            (impl_WormAfter k (r243.1, r240.2.1, (w64 (r240.2.2 - 1)))).bind fun r244 =>
                            cond (!r243.2)
                            (some false)
                            (cond (!r244.2)
                             (some false)
                             (cond (!((r244.1.1 == r241.1.1) && ((r244.1.2.1 == r241.1.2.1) && ((r244.1.2.2.1 == r241.1.2.2.1) && ((r244.1.2.2.2.1 == r241.1.2.2.2.1) && ((r244.1.2.2.2.2.1 == r241.1.2.2.2.2.1) && ((r244.1.2.2.2.2.2.1 == r241.1.2.2.2.2.2.1) && ((r244.1.2.2.2.2.2.2 == r241.1.2.2.2.2.2.2) && true))))))))
                              (some false)
                              (some true))))
                           (some true))
                          (some true)))))))
                    (cond (!(r11.2 == false))
                     (some false)
                     (cond r3.2
                      ((impl_LinesLeft k r2.1).bind fun r245 =>
                       (impl_LinesLeft k r5.1).bind fun r246 =>
                       (impl_LifeOf k (r5.1, r2.2)).bind fun r247 =>
                       cond (!r245.2)
                       (some false)
                       (cond (!r246.2)
                        (some false)
                        (cond ((w64 (r245.1 - r246.1)) != r3.1)
                         (some false)
                         (cond ((r7.1.length : Int) != (w64 (r3.1 + 1)))
                          (some false)
                          (cond ((r9.1.size : Int) != r3.1)
                           (some false)
                           (cond (!r247.2)
                            (some false)
                            (cond (r247.1 != 0)
                             (some false)
                             ((impl_IsWorm k r5.1).bind fun r248 =>
                              cond (!r248)
                              (some false)
                              (cond (inB 0 r7.1.length)
                               (cond ((r7.1.getD 0 default) != (w64 ((w64 (r2.1.2.2.2.2.2.1 * r2.1.1)) + r2.1.2.2.2.2.1)))
                                (some false)
                                (cond (inB r3.1 r7.1.length)
                                 (cond ((r7.1.getD r3.1.toNat default) != (w64 ((w64 (r5.1.2.2.2.2.2.1 * r5.1.1)) + r5.1.2.2.2.2.1)))
                                  (some false)
                                  (cond (decide (r3.1 ≤ 100))
                                   ((impl_WormAfter k (r2.1, r2.2, r3.1)).bind fun r249 =>
                                    cond (!r249.2)
                                    (some false)
                                    (cond (!((r249.1.1 == r5.1.1) && ((r249.1.2.1 == r5.1.2.1) && ((r249.1.2.2.1 == r5.1.2.2.1) && ((r249.1.2.2.2.1 == r5.1.2.2.2.1) && ((r249.1.2.2.2.2.1 == r5.1.2.2.2.2.1) && ((r249.1.2.2.2.2.2.1 == r5.1.2.2.2.2.2.1) && ((r249.1.2.2.2.2.2.2 == r5.1.2.2.2.2.2.2) && true))))))))
                                     (some false)
                                     (cond (r245.1 == (w64 ((w64 (2 * r2.1.1)) * r2.1.2.1)))
                                      (cond (inB r3.1 r7.1.length)
                                       (cond (inB 0 r7.1.length)
                                        (cond ((r7.1.getD r3.1.toNat default) != (r7.1.getD 0 default))
                                         (some false)
                                         (cond r11.2
                                          ((impl_LinesLeft k r2.1).bind fun r250 =>
                                           (impl_LinesLeft k r11.1).bind fun r251 =>
                                           (impl_LifeOf k (r11.1, r2.2)).bind fun r252 =>
                                           (impl_GiveBack k (r11.1, r2.1.2.2.2.2.2.2)).bind fun r253 =>
                                           cond (!r250.2)
                                           (some false)
                                           (cond (!r251.2)
                                            (some false)
                                            (cond (r251.1 != (w64 (r250.1 - 1)))
                                             (some false)
                                             (cond (!r252.2)
                                              (some false)
                                              (cond (r252.1 != (w64 (r3.1 - 1)))
                                               (some false)
                                               (cond (!r253.2)
                                                (some false)
                                                (cond (!((r253.1.1 == r2.1.1) && ((r253.1.2.1 == r2.1.2.1) && ((r253.1.2.2.1 == r2.1.2.2.1) && ((r253.1.2.2.2.1 == r2.1.2.2.2.1) && ((r253.1.2.2.2.2.1 == r2.1.2.2.2.2.1) && ((r253.1.2.2.2.2.2.1 == r2.1.2.2.2.2.2.1) && ((r253.1.2.2.2.2.2.2 == r2.1.2.2.2.2.2.2) && true))))))))
                                                 (some false)
                                                 ((spec_DrawWormAfter k more).bind fun r254 =>
                                                  (impl_WormAfter k r254).bind fun r255 =>
                                                  (spec_WormAfter k r254).bind fun r256 =>
                                                  cond (!(r255.2 == r256.2))
                                                  (some false)
                                                  (cond (!((r255.1.1 == r256.1.1) && ((r255.1.2.1 == r256.1.2.1) && ((r255.1.2.2.1 == r256.1.2.2.1) && ((r255.1.2.2.2.1 == r256.1.2.2.2.1) && ((r255.1.2.2.2.2.1 == r256.1.2.2.2.2.1) && ((r255.1.2.2.2.2.2.1 == r256.1.2.2.2.2.2.1) && ((r255.1.2.2.2.2.2.2 == r256.1.2.2.2.2.2.2) && true))))))))
                                                   (some false)
                                                   (cond r255.2
                                                    (cond (decide (r254.2.2 > 0))
                                                     ((impl_EatLine k (r254.1, r254.2.1)).bind fun r257 =>
                                                      (impl_WormAfter k (r257.1, r254.2.1, (w64 (r254.2.2 - 1)))).bind fun r258 =>
                                                      cond (!r257.2)
                                                      (some false)
                                                      (cond (!r258.2)
                                                       (some false)
                                                       (cond (!((r258.1.1 == r255.1.1) && ((r258.1.2.1 == r255.1.2.1) && ((r258.1.2.2.1 == r255.1.2.2.1) && ((r258.1.2.2.2.1 == r255.1.2.2.2.1) && ((r258.1.2.2.2.2.1 == r255.1.2.2.2.2.1) && ((r258.1.2.2.2.2.2.1 == r255.1.2.2.2.2.2.1) && ((r258.1.2.2.2.2.2.2 == r255.1.2.2.2.2.2.2) && true))))))))
                                                        (some false)
                                                        (some true))))
                                                     (some true))
                                                    (some true)))))))))))
                                          ((spec_DrawWormAfter k more).bind fun r259 =>
                                           (impl_WormAfter k r259).bind fun r260 =>
                                           (spec_WormAfter k r259).bind fun r261 =>
                                           cond (!(r260.2 == r261.2))
                                           (some false)
                                           (cond (!((r260.1.1 == r261.1.1) && ((r260.1.2.1 == r261.1.2.1) && ((r260.1.2.2.1 == r261.1.2.2.1) && ((r260.1.2.2.2.1 == r261.1.2.2.2.1) && ((r260.1.2.2.2.2.1 == r261.1.2.2.2.2.1) && ((r260.1.2.2.2.2.2.1 == r261.1.2.2.2.2.2.1) && ((r260.1.2.2.2.2.2.2 == r261.1.2.2.2.2.2.2) && true))))))))
                                            (some false)
                                            (cond r260.2
                                             (cond (decide (r259.2.2 > 0))
                                              ((impl_EatLine k (r259.1, r259.2.1)).bind fun r262 =>
                                               (impl_WormAfter k (r262.1, r259.2.1, (w64 (r259.2.2 - 1)))).bind fun r263 =>
                                               cond (!r262.2)
                                               (some false)
                                               (cond (!r263.2)
                                                (some false)
                                                (cond (!((r263.1.1 == r260.1.1) && ((r263.1.2.1 == r260.1.2.1) && ((r263.1.2.2.1 == r260.1.2.2.1) && ((r263.1.2.2.2.1 == r260.1.2.2.2.1) && ((r263.1.2.2.2.2.1 == r260.1.2.2.2.2.1) && ((r263.1.2.2.2.2.2.1 == r260.1.2.2.2.2.2.1) && ((r263.1.2.2.2.2.2.2 == r260.1.2.2.2.2.2.2) && true))))))))
                                                 (some false)
                                                 (some true))))
                                              (some true))
                                             (some true))))))
                                        (none))
                                       (none))
                                      (cond r11.2
                                       ((impl_LinesLeft k r2.1).bind fun r264 =>
                                        (impl_LinesLeft k r11.1).bind fun r265 =>
                                        (impl_LifeOf k (r11.1, r2.2)).bind fun r266 =>
                                        (impl_GiveBack k (r11.1, r2.1.2.2.2.2.2.2)).bind fun r267 =>
                                        cond (!r264.2)
                                        (some false)
                                        (cond (!r265.2)
                                         (some false)
                                         (cond (r265.1 != (w64 (r264.1 - 1)))
                                          (some false)
                                          (cond (!r266.2)
                                           (some false)
                                           (cond (r266.1 != (w64 (r3.1 - 1)))
                                            (some false)
                                            (cond (!r267.2)
                                             (some false)
                                             (cond (!((r267.1.1 == r2.1.1) && ((r267.1.2.1 == r2.1.2.1) && ((r267.1.2.2.1 == r2.1.2.2.1) && ((r267.1.2.2.2.1 == r2.1.2.2.2.1) && ((r267.1.2.2.2.2.1 == r2.1.2.2.2.2.1) && ((r267.1.2.2.2.2.2.1 == r2.1.2.2.2.2.2.1) && ((r267.1.2.2.2.2.2.2 == r2.1.2.2.2.2.2.2) && true))))))))
                                              (some false)
                                              ((spec_DrawWormAfter k more).bind fun r268 =>
                                               (impl_WormAfter k r268).bind fun r269 =>
                                               (spec_WormAfter k r268).bind fun r270 =>
                                               cond (!(r269.2 == r270.2))
                                               (some false)
                                               (cond (!((r269.1.1 == r270.1.1) && ((r269.1.2.1 == r270.1.2.1) && ((r269.1.2.2.1 == r270.1.2.2.1) && ((r269.1.2.2.2.1 == r270.1.2.2.2.1) && ((r269.1.2.2.2.2.1 == r270.1.2.2.2.2.1) && ((r269.1.2.2.2.2.2.1 == r270.1.2.2.2.2.2.1) && ((r269.1.2.2.2.2.2.2 == r270.1.2.2.2.2.2.2) && true))))))))
                                                (some false)
                                                (cond r269.2
                                                 (cond (decide (r268.2.2 > 0))
                                                  ((impl_EatLine k (r268.1, r268.2.1)).bind fun r271 =>
                                                   (impl_WormAfter k (r271.1, r268.2.1, (w64 (r268.2.2 - 1)))).bind fun r272 =>
                                                   cond (!r271.2)
                                                   (some false)
                                                   (cond (!r272.2)
                                                    (some false)
                                                    (cond (!((r272.1.1 == r269.1.1) && ((r272.1.2.1 == r269.1.2.1) && ((r272.1.2.2.1 == r269.1.2.2.1) && ((r272.1.2.2.2.1 == r269.1.2.2.2.1) && ((r272.1.2.2.2.2.1 == r269.1.2.2.2.2.1) && ((r272.1.2.2.2.2.2.1 == r269.1.2.2.2.2.2.1) && ((r272.1.2.2.2.2.2.2 == r269.1.2.2.2.2.2.2) && true))))))))
                                                     (some false)
                                                     (some true))))
                                                  (some true))
                                                 (some true)))))))))))
                                       ((spec_DrawWormAfter k more).bind fun r273 =>
                                        (impl_WormAfter k r273).bind fun r274 =>
                                        (spec_WormAfter k r273).bind fun r275 =>
                                        cond (!(r274.2 == r275.2))
                                        (some false)
                                        (cond (!((r274.1.1 == r275.1.1) && ((r274.1.2.1 == r275.1.2.1) && ((r274.1.2.2.1 == r275.1.2.2.1) && ((r274.1.2.2.2.1 == r275.1.2.2.2.1) && ((r274.1.2.2.2.2.1 == r275.1.2.2.2.2.1) && ((r274.1.2.2.2.2.2.1 == r275.1.2.2.2.2.2.1) && ((r274.1.2.2.2.2.2.2 == r275.1.2.2.2.2.2.2) && true))))))))
                                         (some false)
                                         (cond r274.2
                                          (cond (decide (r273.2.2 > 0))
                                           ((impl_EatLine k (r273.1, r273.2.1)).bind fun r276 =>
                                            (impl_WormAfter k (r276.1, r273.2.1, (w64 (r273.2.2 - 1)))).bind fun r277 =>
                                            cond (!r276.2)
                                            (some false)
                                            (cond (!r277.2)
                                             (some false)
                                             (cond (!((r277.1.1 == r274.1.1) && ((r277.1.2.1 == r274.1.2.1) && ((r277.1.2.2.1 == r274.1.2.2.1) && ((r277.1.2.2.2.1 == r274.1.2.2.2.1) && ((r277.1.2.2.2.2.1 == r274.1.2.2.2.2.1) && ((r277.1.2.2.2.2.2.1 == r274.1.2.2.2.2.2.1) && ((r277.1.2.2.2.2.2.2 == r274.1.2.2.2.2.2.2) && true))))))))
                                              (some false)
                                              (some true))))
                                           (some true))
                                          (some true))))))))
                                   (cond (r245.1 == (w64 ((w64 (2 * r2.1.1)) * r2.1.2.1)))
                                    (cond (inB r3.1 r7.1.length)
                                     (cond (inB 0 r7.1.length)
                                      (cond ((r7.1.getD r3.1.toNat default) != (r7.1.getD 0 default))
                                       (some false)
                                       (cond r11.2
                                        ((impl_LinesLeft k r2.1).bind fun r278 =>
                                         (impl_LinesLeft k r11.1).bind fun r279 =>
                                         (impl_LifeOf k (r11.1, r2.2)).bind fun r280 =>
                                         (impl_GiveBack k (r11.1, r2.1.2.2.2.2.2.2)).bind fun r281 =>
                                         cond (!r278.2)
                                         (some false)
                                         (cond (!r279.2)
                                          (some false)
                                          (cond (r279.1 != (w64 (r278.1 - 1)))
                                           (some false)
                                           (cond (!r280.2)
                                            (some false)
                                            (cond (r280.1 != (w64 (r3.1 - 1)))
                                             (some false)
                                             (cond (!r281.2)
                                              (some false)
                                              (cond (!((r281.1.1 == r2.1.1) && ((r281.1.2.1 == r2.1.2.1) && ((r281.1.2.2.1 == r2.1.2.2.1) && ((r281.1.2.2.2.1 == r2.1.2.2.2.1) && ((r281.1.2.2.2.2.1 == r2.1.2.2.2.2.1) && ((r281.1.2.2.2.2.2.1 == r2.1.2.2.2.2.2.1) && ((r281.1.2.2.2.2.2.2 == r2.1.2.2.2.2.2.2) && true))))))))
                                               (some false)
                                               ((spec_DrawWormAfter k more).bind fun r282 =>
                                                (impl_WormAfter k r282).bind fun r283 =>
                                                (spec_WormAfter k r282).bind fun r284 =>
                                                cond (!(r283.2 == r284.2))
                                                (some false)
                                                (cond (!((r283.1.1 == r284.1.1) && ((r283.1.2.1 == r284.1.2.1) && ((r283.1.2.2.1 == r284.1.2.2.1) && ((r283.1.2.2.2.1 == r284.1.2.2.2.1) && ((r283.1.2.2.2.2.1 == r284.1.2.2.2.2.1) && ((r283.1.2.2.2.2.2.1 == r284.1.2.2.2.2.2.1) && ((r283.1.2.2.2.2.2.2 == r284.1.2.2.2.2.2.2) && true))))))))
                                                 (some false)
                                                 (cond r283.2
                                                  (cond (decide (r282.2.2 > 0))
                                                   ((impl_EatLine k (r282.1, r282.2.1)).bind fun r285 =>
                                                    (impl_WormAfter k (r285.1, r282.2.1, (w64 (r282.2.2 - 1)))).bind fun r286 =>
                                                    cond (!r285.2)
                                                    (some false)
                                                    (cond (!r286.2)
                                                     (some false)
                                                     (cond (!((r286.1.1 == r283.1.1) && ((r286.1.2.1 == r283.1.2.1) && ((r286.1.2.2.1 == r283.1.2.2.1) && ((r286.1.2.2.2.1 == r283.1.2.2.2.1) && ((r286.1.2.2.2.2.1 == r283.1.2.2.2.2.1) && ((r286.1.2.2.2.2.2.1 == r283.1.2.2.2.2.2.1) && ((r286.1.2.2.2.2.2.2 == r283.1.2.2.2.2.2.2) && true))))))))
                                                      (some false)
                                                      (some true))))
                                                   (some true))
                                                  (some true)))))))))))
                                        ((spec_DrawWormAfter k more).bind fun r287 =>
                                         (impl_WormAfter k r287).bind fun r288 =>
                                         (spec_WormAfter k r287).bind fun r289 =>
                                         cond (!(r288.2 == r289.2))
                                         (some false)
                                         (cond (!((r288.1.1 == r289.1.1) && ((r288.1.2.1 == r289.1.2.1) && ((r288.1.2.2.1 == r289.1.2.2.1) && ((r288.1.2.2.2.1 == r289.1.2.2.2.1) && ((r288.1.2.2.2.2.1 == r289.1.2.2.2.2.1) && ((r288.1.2.2.2.2.2.1 == r289.1.2.2.2.2.2.1) && ((r288.1.2.2.2.2.2.2 == r289.1.2.2.2.2.2.2) && true))))))))
                                          (some false)
                                          (cond r288.2
                                           (cond (decide (r287.2.2 > 0))
                                            ((impl_EatLine k (r287.1, r287.2.1)).bind fun r290 =>
                                             (impl_WormAfter k (r290.1, r287.2.1, (w64 (r287.2.2 - 1)))).bind fun r291 =>
                                             cond (!r290.2)
                                             (some false)
                                             (cond (!r291.2)
                                              (some false)
                                              (cond (!((r291.1.1 == r288.1.1) && ((r291.1.2.1 == r288.1.2.1) && ((r291.1.2.2.1 == r288.1.2.2.1) && ((r291.1.2.2.2.1 == r288.1.2.2.2.1) && ((r291.1.2.2.2.2.1 == r288.1.2.2.2.2.1) && ((r291.1.2.2.2.2.2.1 == r288.1.2.2.2.2.2.1) && ((r291.1.2.2.2.2.2.2 == r288.1.2.2.2.2.2.2) && true))))))))
                                               (some false)
                                               (some true))))
                                            (some true))
                                           (some true))))))
                                      (none))
                                     (none))
                                    (cond r11.2
                                     ((impl_LinesLeft k r2.1).bind fun r292 =>
                                      (impl_LinesLeft k r11.1).bind fun r293 =>
                                      (impl_LifeOf k (r11.1, r2.2)).bind fun r294 =>
                                      (impl_GiveBack k (r11.1, r2.1.2.2.2.2.2.2)).bind fun r295 =>
                                      cond (!r292.2)
                                      (some false)
                                      (cond (!r293.2)
                                       (some false)
                                       (cond (r293.1 != (w64 (r292.1 - 1)))
                                        (some false)
                                        (cond (!r294.2)
                                         (some false)
                                         (cond (r294.1 != (w64 (r3.1 - 1)))
                                          (some false)
                                          (cond (!r295.2)
                                           (some false)
                                           (cond (!((r295.1.1 == r2.1.1) && ((r295.1.2.1 == r2.1.2.1) && ((r295.1.2.2.1 == r2.1.2.2.1) && ((r295.1.2.2.2.1 == r2.1.2.2.2.1) && ((r295.1.2.2.2.2.1 == r2.1.2.2.2.2.1) && ((r295.1.2.2.2.2.2.1 == r2.1.2.2.2.2.2.1) && ((r295.1.2.2.2.2.2.2 == r2.1.2.2.2.2.2.2) && true))))))))
                                            (some false)
                                            ((spec_DrawWormAfter k more).bind fun r296 =>
                                             (impl_WormAfter k r296).bind fun r297 =>
                                             (spec_WormAfter k r296).bind fun r298 =>
                                             cond (!(r297.2 == r298.2))
                                             (some false)
                                             (cond (!((r297.1.1 == r298.1.1) && ((r297.1.2.1 == r298.1.2.1) && ((r297.1.2.2.1 == r298.1.2.2.1) && ((r297.1.2.2.2.1 == r298.1.2.2.2.1) && ((r297.1.2.2.2.2.1 == r298.1.2.2.2.2.1) && ((r297.1.2.2.2.2.2.1 == r298.1.2.2.2.2.2.1) && ((r297.1.2.2.2.2.2.2 == r298.1.2.2.2.2.2.2) && true))))))))
                                              (some false)
                                              (cond r297.2
                                               (cond (decide (r296.2.2 > 0))
                                                ((impl_EatLine k (r296.1, r296.2.1)).bind fun r299 =>
                                                 (impl_WormAfter k (r299.1, r296.2.1, (w64 (r296.2.2 - 1)))).bind fun r300 =>
                                                 cond (!r299.2)
                                                 (some false)
                                                 (cond (!r300.2)
                                                  (some false)
                                                  (cond (!((r300.1.1 == r297.1.1) && ((r300.1.2.1 == r297.1.2.1) && ((r300.1.2.2.1 == r297.1.2.2.1) && ((r300.1.2.2.2.1 == r297.1.2.2.2.1) && ((r300.1.2.2.2.2.1 == r297.1.2.2.2.2.1) && ((r300.1.2.2.2.2.2.1 == r297.1.2.2.2.2.2.1) && ((r300.1.2.2.2.2.2.2 == r297.1.2.2.2.2.2.2) && true))))))))
                                                   (some false)
                                                   (some true))))
                                                (some true))
                                               (some true)))))))))))
                                     ((spec_DrawWormAfter k more).bind fun r301 =>
                                      (impl_WormAfter k r301).bind fun r302 =>
                                      (spec_WormAfter k r301).bind fun r303 =>
                                      cond (!(r302.2 == r303.2))
                                      (some false)
                                      (cond (!((r302.1.1 == r303.1.1) && ((r302.1.2.1 == r303.1.2.1) && ((r302.1.2.2.1 == r303.1.2.2.1) && ((r302.1.2.2.2.1 == r303.1.2.2.2.1) && ((r302.1.2.2.2.2.1 == r303.1.2.2.2.2.1) && ((r302.1.2.2.2.2.2.1 == r303.1.2.2.2.2.2.1) && ((r302.1.2.2.2.2.2.2 == r303.1.2.2.2.2.2.2) && true))))))))
                                       (some false)
                                       (cond r302.2
                                        (cond (decide (r301.2.2 > 0))
                                         ((impl_EatLine k (r301.1, r301.2.1)).bind fun r304 =>
                                          (impl_WormAfter k (r304.1, r301.2.1, (w64 (r301.2.2 - 1)))).bind fun r305 =>
                                          cond (!r304.2)
                                          (some false)
                                          (cond (!r305.2)
                                           (some false)
                                           (cond (!((r305.1.1 == r302.1.1) && ((r305.1.2.1 == r302.1.2.1) && ((r305.1.2.2.1 == r302.1.2.2.1) && ((r305.1.2.2.2.1 == r302.1.2.2.2.1) && ((r305.1.2.2.2.2.1 == r302.1.2.2.2.2.1) && ((r305.1.2.2.2.2.2.1 == r302.1.2.2.2.2.2.1) && ((r305.1.2.2.2.2.2.2 == r302.1.2.2.2.2.2.2) && true))))))))
                                            (some false)
                                            (some true))))
                                         (some true))
                                        (some true))))))))
                                 (none)))
                               (none))))))))))
                      (cond r11.2
                       ((impl_LinesLeft k r2.1).bind fun r306 =>
                        (impl_LinesLeft k r11.1).bind fun r307 =>
                        (impl_LifeOf k (r11.1, r2.2)).bind fun r308 =>
                        (impl_GiveBack k (r11.1, r2.1.2.2.2.2.2.2)).bind fun r309 =>
                        cond (!r306.2)
                        (some false)
                        (cond (!r307.2)
                         (some false)
                         (cond (r307.1 != (w64 (r306.1 - 1)))
                          (some false)
                          (cond (!r308.2)
                           (some false)
                           (cond (r308.1 != (w64 (r3.1 - 1)))
                            (some false)
                            (cond (!r309.2)
                             (some false)
                             (cond (!((r309.1.1 == r2.1.1) && ((r309.1.2.1 == r2.1.2.1) && ((r309.1.2.2.1 == r2.1.2.2.1) && ((r309.1.2.2.2.1 == r2.1.2.2.2.1) && ((r309.1.2.2.2.2.1 == r2.1.2.2.2.2.1) && ((r309.1.2.2.2.2.2.1 == r2.1.2.2.2.2.2.1) && ((r309.1.2.2.2.2.2.2 == r2.1.2.2.2.2.2.2) && true))))))))
                              (some false)
                              ((spec_DrawWormAfter k more).bind fun r310 =>
                               (impl_WormAfter k r310).bind fun r311 =>
                               (spec_WormAfter k r310).bind fun r312 =>
                               cond (!(r311.2 == r312.2))
                               (some false)
                               (cond (!((r311.1.1 == r312.1.1) && ((r311.1.2.1 == r312.1.2.1) && ((r311.1.2.2.1 == r312.1.2.2.1) && ((r311.1.2.2.2.1 == r312.1.2.2.2.1) && ((r311.1.2.2.2.2.1 == r312.1.2.2.2.2.1) && ((r311.1.2.2.2.2.2.1 == r312.1.2.2.2.2.2.1) && ((r311.1.2.2.2.2.2.2 == r312.1.2.2.2.2.2.2) && true))))))))
                                (some false)
                                (cond r311.2
                                 (cond (decide (r310.2.2 > 0))
                                  ((impl_EatLine k (r310.1, r310.2.1)).bind fun r313 =>
                                   (impl_WormAfter k (r313.1, r310.2.1, (w64 (r310.2.2 - 1)))).bind fun r314 =>
                                   cond (!r313.2)
                                   (some false)
                                   (cond (!r314.2)
                                    (some false)
                                    (cond (!((r314.1.1 == r311.1.1) && ((r314.1.2.1 == r311.1.2.1) && ((r314.1.2.2.1 == r311.1.2.2.1) && ((r314.1.2.2.2.1 == r311.1.2.2.2.1) && ((r314.1.2.2.2.2.1 == r311.1.2.2.2.2.1) && ((r314.1.2.2.2.2.2.1 == r311.1.2.2.2.2.2.1) && ((r314.1.2.2.2.2.2.2 == r311.1.2.2.2.2.2.2) && true))))))))
                                     (some false)
                                     (some true))))
                                  (some true))
                                 (some true)))))))))))
                       ((spec_DrawWormAfter k more).bind fun r315 =>
                        (impl_WormAfter k r315).bind fun r316 =>
                        (spec_WormAfter k r315).bind fun r317 =>
                        cond (!(r316.2 == r317.2))
                        (some false)
                        (cond (!((r316.1.1 == r317.1.1) && ((r316.1.2.1 == r317.1.2.1) && ((r316.1.2.2.1 == r317.1.2.2.1) && ((r316.1.2.2.2.1 == r317.1.2.2.2.1) && ((r316.1.2.2.2.2.1 == r317.1.2.2.2.2.1) && ((r316.1.2.2.2.2.2.1 == r317.1.2.2.2.2.2.1) && ((r316.1.2.2.2.2.2.2 == r317.1.2.2.2.2.2.2) && true))))))))
                         (some false)
                         (cond r316.2
                          (cond (decide (r315.2.2 > 0))
                           ((impl_EatLine k (r315.1, r315.2.1)).bind fun r318 =>
                            (impl_WormAfter k (r318.1, r315.2.1, (w64 (r315.2.2 - 1)))).bind fun r319 =>
                            cond (!r318.2)
                            (some false)
                            (cond (!r319.2)
                             (some false)
                             (cond (!((r319.1.1 == r316.1.1) && ((r319.1.2.1 == r316.1.2.1) && ((r319.1.2.2.1 == r316.1.2.2.1) && ((r319.1.2.2.2.1 == r316.1.2.2.2.1) && ((r319.1.2.2.2.2.1 == r316.1.2.2.2.2.1) && ((r319.1.2.2.2.2.2.1 == r316.1.2.2.2.2.2.1) && ((r319.1.2.2.2.2.2.2 == r316.1.2.2.2.2.2.2) && true))))))))
                              (some false)
                              (some true))))
                           (some true))
                          (some true))))))))))))))))))))))))) := by kernel_rfl
end Go.Proofs.YtmdgodjcfhimbaaS
