/- What each function computes (printed by wip/sim/gen.py). -/
import Derived.Test.YtmdgodjcfhimbaaGreatDoorTab
namespace Go.Proofs.YtmdgodjcfhimbaaGreatDoorS
open Go Go.Proofs
set_option maxRecDepth 100000
set_option linter.unusedVariables false
theorem laws_FnBoardsHidden.eq (k : Nat) (code : List Int) (more : List Int) : laws_FnBoardsHidden (k + 1) (code, more) =
  (laws_big k (code, more)).bind fun r1 =>
  cond r1
  (some true)
  ((spec_DrawMakePuzzle k code).bind fun r2 =>
   (impl_MakePuzzle k r2).bind fun r3 =>
   (spec_MakePuzzle k r2).bind fun r4 =>
   cond (!(r3.2 == r4.2))
   (some false)
   ((laws_dPuzzle k (r3.1, r4.1)).bind fun r5 =>
    cond (!r5)
    (some false)
    (cond r3.2
     ((impl_Solutions k r3.1).bind fun r6 =>
      (impl_WorldAfter k (r2.1, 11)).bind fun r7 =>
      (impl_DoesFit k ((2, 11, r7.1.2.2.2.2.2.2), r2.1)).bind fun r8 =>
      (impl_DoesFit k ((1, 11, (w64 ((w64 (r7.1.2.2.2.2.2.1 * r7.1.2.1)) + r7.1.2.2.2.2.1))), r2.1)).bind fun r9 =>
      (impl_CountColours k r7.1).bind fun r10 =>
      cond (!r10.2)
      (some false)
      (cond (decide ((r10.1.length : Int) < 1))
       (some false)
       (cond (inB 0 r10.1.length)
        ((impl_DoesFit k ((3, 11, (r10.1.getD 0 default)), r2.1)).bind fun r11 =>
         (impl_IsPuzzle k r3.1).bind fun r12 =>
         cond (!r12)
         (some false)
         (cond ((r3.1.2.2.2.length : Int) != r2.2.1)
          (some false)
          (cond (!r6.2)
           (some false)
           ((laws_dText k (r6.1, r2.1.2.2.2.1)).bind fun r13 =>
            cond (!r13)
            (some false)
            (cond (!r7.2)
             (some false)
             (cond (!r8.2)
              (some false)
              (cond (!r8.1)
               (some false)
               (cond (!r9.2)
                (some false)
                (cond (!r9.1)
                 (some false)
                 (cond (!r10.2)
                  (some false)
                  (cond (!r11.2)
                   (some false)
                   (cond (!r11.1)
                    (some false)
                    ((spec_DrawHarderPuzzle k more).bind fun r14 =>
                     (impl_HarderPuzzle k r14).bind fun r15 =>
                     (spec_HarderPuzzle k r14).bind fun r16 =>
                     (impl_IsSolved k r14).bind fun r17 =>
                     cond (!(r15.2 == r16.2))
                     (some false)
                     ((laws_dPuzzle k (r15.1, r16.1)).bind fun r18 =>
                      cond (!r18)
                      (some false)
                      (cond r17.2
                       (cond (!(r15.2 == r17.1))
                        (some false)
                        (cond r15.2
                         ((impl_Solutions k r14).bind fun r19 =>
                          (impl_Solutions k r15.1).bind fun r20 =>
                          (impl_NeedlessClues k r15.1).bind fun r21 =>
                          cond (!r19.2)
                          (some false)
                          (cond (!r20.2)
                           (some false)
                           ((laws_dTexts k (r19.1, r20.1)).bind fun r22 =>
                            cond (!r22)
                            (some false)
                            (cond (!r21.2)
                             (some false)
                             (cond ((r21.1.length : Int) != 0)
                              (some false)
                              (cond (decide ((r15.1.2.2.2.length : Int) > (r14.2.2.2.length : Int)))
                               (some false)
                               ((spec_DrawAddClue k more).bind fun r23 =>
                                (impl_AddClue k r23).bind fun r24 =>
                                (spec_AddClue k r23).bind fun r25 =>
                                (spec_DrawDropClue k more).bind fun r26 =>
                                (impl_DropClue k r26).bind fun r27 =>
                                (spec_DropClue k r26).bind fun r28 =>
                                (spec_DrawDoesFit k more).bind fun r29 =>
                                (impl_DoesFit k r29).bind fun r30 =>
                                (spec_DoesFit k r29).bind fun r31 =>
                                (spec_DrawIsClue k more).bind fun r32 =>
                                (spec_DrawCountBoards k more).bind fun r33 =>
                                (impl_CountBoards k r33).bind fun r34 =>
                                (spec_CountBoards k r33).bind fun r35 =>
                                cond (!(r24.2 == r25.2))
                                (some false)
                                ((laws_dPuzzle k (r24.1, r25.1)).bind fun r36 =>
                                 cond (!r36)
                                 (some false)
                                 (cond (!(r27.2 == r28.2))
                                  (some false)
                                  ((laws_dPuzzle k (r27.1, r28.1)).bind fun r37 =>
                                   cond (!r37)
                                   (some false)
                                   (cond (!(r30.2 == r31.2))
                                    (some false)
                                    (cond (!(r30.1 == r31.1))
                                     (some false)
                                     ((impl_IsClue k r32).bind fun r38 =>
                                      (spec_IsClue k r32).bind fun r39 =>
                                      cond (!(r38 == r39))
                                      (some false)
                                      (cond (!(r34.2 == r35.2))
                                       (some false)
                                       (cond (r34.1 != r35.1)
                                        (some false)
                                        (cond r30.2
                                         ((impl_IsClue k (r29.2.1, (r29.2.2.2.2.1.size : Int), r29.1)).bind fun r40 =>
                                          cond (!r40)
                                          (some false)
                                          (cond r24.2
                                           ((impl_DropClue k (r24.1, (r23.1.2.2.2.length : Int))).bind fun r41 =>
                                            cond (!r41.2)
                                            (some false)
                                            ((laws_dPuzzle k (r41.1, r23.1)).bind fun r42 =>
                                             cond (!r42)
                                             (some false)
                                             (cond (inB (r23.1.2.2.2.length : Int) r24.1.2.2.2.length)
                                              (cond (!(((r24.1.2.2.2.getD ((r23.1.2.2.2.length : Int).toNat) default).1 == r23.2.1) && (((r24.1.2.2.2.getD ((r23.1.2.2.2.length : Int).toNat) default).2.1 == r23.2.2.1) && (((r24.1.2.2.2.getD ((r23.1.2.2.2.length : Int).toNat) default).2.2 == r23.2.2.2) && true))))
                                               (some false)
                                               (cond r27.2
                                                (cond (r26.2 == (w64 ((r26.1.2.2.2.length : Int) - 1)))
                                                 (cond (inB r26.2 r26.1.2.2.2.length)
                                                  ((impl_AddClue k (r27.1, (r26.1.2.2.2.getD r26.2.toNat default))).bind fun r43 =>
                                                   cond (!r43.2)
                                                   (some false)
                                                   ((laws_dPuzzle k (r43.1, r26.1)).bind fun r44 =>
                                                    cond (!r44)
                                                    (some false)
                                                    (cond r34.2
                                                     ((laws_FnBoardsHidden_l k (r33.1, r33.2.1, r33.2.2, r34.1, 1, 0)).bind fun r45 =>
                                                      some (r45.1 == r45.2))
                                                     (some true))))
                                                  (none))
                                                 (cond r34.2
                                                  ((laws_FnBoardsHidden_l k (r33.1, r33.2.1, r33.2.2, r34.1, 1, 0)).bind fun r46 =>
                                                   some (r46.1 == r46.2))
                                                  (some true)))
                                                (cond r34.2
                                                 ((laws_FnBoardsHidden_l k (r33.1, r33.2.1, r33.2.2, r34.1, 1, 0)).bind fun r47 =>
                                                  some (r47.1 == r47.2))
                                                 (some true))))
                                              (none))))
                                           (cond r27.2
                                            (cond (r26.2 == (w64 ((r26.1.2.2.2.length : Int) - 1)))
                                             (cond (inB r26.2 r26.1.2.2.2.length)
                                              ((impl_AddClue k (r27.1, (r26.1.2.2.2.getD r26.2.toNat default))).bind fun r48 =>
                                               cond (!r48.2)
                                               (some false)
                                               ((laws_dPuzzle k (r48.1, r26.1)).bind fun r49 =>
                                                cond (!r49)
                                                (some false)
                                                (cond r34.2
                                                 ((laws_FnBoardsHidden_l k (r33.1, r33.2.1, r33.2.2, r34.1, 1, 0)).bind fun r50 =>
                                                  some (r50.1 == r50.2))
                                                 (some true))))
                                              (none))
                                             (cond r34.2
                                              ((laws_FnBoardsHidden_l k (r33.1, r33.2.1, r33.2.2, r34.1, 1, 0)).bind fun r51 =>
                                               some (r51.1 == r51.2))
                                              (some true)))
                                            (cond r34.2
                                             ((laws_FnBoardsHidden_l k (r33.1, r33.2.1, r33.2.2, r34.1, 1, 0)).bind fun r52 =>
                                              some (r52.1 == r52.2))
                                             (some true)))))
                                         (cond r24.2
                                          ((impl_DropClue k (r24.1, (r23.1.2.2.2.length : Int))).bind fun r53 =>
                                           cond (!r53.2)
                                           (some false)
                                           ((laws_dPuzzle k (r53.1, r23.1)).bind fun r54 =>
                                            cond (!r54)
                                            (some false)
                                            (cond (inB (r23.1.2.2.2.length : Int) r24.1.2.2.2.length)
                                             (cond (!(((r24.1.2.2.2.getD ((r23.1.2.2.2.length : Int).toNat) default).1 == r23.2.1) && (((r24.1.2.2.2.getD ((r23.1.2.2.2.length : Int).toNat) default).2.1 == r23.2.2.1) && (((r24.1.2.2.2.getD ((r23.1.2.2.2.length : Int).toNat) default).2.2 == r23.2.2.2) && true))))
                                              (some false)
                                              (cond r27.2
                                               (cond (r26.2 == (w64 ((r26.1.2.2.2.length : Int) - 1)))
                                                (cond (inB r26.2 r26.1.2.2.2.length)
                                                 ((impl_AddClue k (r27.1, (r26.1.2.2.2.getD r26.2.toNat default))).bind fun r55 =>
                                                  cond (!r55.2)
                                                  (some false)
                                                  ((laws_dPuzzle k (r55.1, r26.1)).bind fun r56 =>
                                                   cond (!r56)
                                                   (some false)
                                                   (cond r34.2
                                                    ((laws_FnBoardsHidden_l k (r33.1, r33.2.1, r33.2.2, r34.1, 1, 0)).bind fun r57 =>
                                                     some (r57.1 == r57.2))
                                                    (some true))))
                                                 (none))
                                                (cond r34.2
                                                 ((laws_FnBoardsHidden_l k (r33.1, r33.2.1, r33.2.2, r34.1, 1, 0)).bind fun r58 =>
                                                  some (r58.1 == r58.2))
                                                 (some true)))
                                               (cond r34.2
                                                ((laws_FnBoardsHidden_l k (r33.1, r33.2.1, r33.2.2, r34.1, 1, 0)).bind fun r59 =>
                                                 some (r59.1 == r59.2))
                                                (some true))))
                                             (none))))
                                          (cond r27.2
                                           (cond (r26.2 == (w64 ((r26.1.2.2.2.length : Int) - 1)))
                                            (cond (inB r26.2 r26.1.2.2.2.length)
                                             ((impl_AddClue k (r27.1, (r26.1.2.2.2.getD r26.2.toNat default))).bind fun r60 =>
                                              cond (!r60.2)
                                              (some false)
                                              ((laws_dPuzzle k (r60.1, r26.1)).bind fun r61 =>
                                               cond (!r61)
                                               (some false)
                                               (cond r34.2
                                                ((laws_FnBoardsHidden_l k (r33.1, r33.2.1, r33.2.2, r34.1, 1, 0)).bind fun r62 =>
                                                 some (r62.1 == r62.2))
                                                (some true))))
                                             (none))
                                            (cond r34.2
                                             ((laws_FnBoardsHidden_l k (r33.1, r33.2.1, r33.2.2, r34.1, 1, 0)).bind fun r63 =>
                                              some (r63.1 == r63.2))
                                             (some true)))
                                           (cond r34.2
                                            ((laws_FnBoardsHidden_l k (r33.1, r33.2.1, r33.2.2, r34.1, 1, 0)).bind fun r64 =>
                                             some (r64.1 == r64.2))
                                            (some true))))))))))))))))))))
                         ((spec_DrawAddClue k more).bind fun r65 =>
                          (impl_AddClue k r65).bind fun r66 =>
                          (spec_AddClue k r65).bind fun r67 =>
                          (spec_DrawDropClue k more).bind fun r68 =>
                          (impl_DropClue k r68).bind fun r69 =>
                          (spec_DropClue k r68).bind fun r70 =>
                          (spec_DrawDoesFit k more).bind fun r71 =>
                          (impl_DoesFit k r71).bind fun r72 =>
                          (spec_DoesFit k r71).bind fun r73 =>
                          (spec_DrawIsClue k more).bind fun r74 =>
                          (spec_DrawCountBoards k more).bind fun r75 =>
                          (impl_CountBoards k r75).bind fun r76 =>
                          (spec_CountBoards k r75).bind fun r77 =>
                          cond (!(r66.2 == r67.2))
                          (some false)
                          ((laws_dPuzzle k (r66.1, r67.1)).bind fun r78 =>
                           cond (!r78)
                           (some false)
                           (cond (!(r69.2 == r70.2))
                            (some false)
                            ((laws_dPuzzle k (r69.1, r70.1)).bind fun r79 =>
                             cond (!r79)
                             (some false)
                             (cond (!(r72.2 == r73.2))
                              (some false)
                              (cond (!(r72.1 == r73.1))
                               (some false)
                               ((impl_IsClue k r74).bind fun r80 =>
                                (spec_IsClue k r74).bind fun r81 =>
                                cond (!(r80 == r81))
                                (some false)
                                (cond (!(r76.2 == r77.2))
                                 (some false)
                                 (cond (r76.1 != r77.1)
                                  (some false)
                                  (cond r72.2
                                   ((impl_IsClue k (r71.2.1, (r71.2.2.2.2.1.size : Int), r71.1)).bind fun r82 =>
                                    cond (!r82)
                                    (some false)
                                    (cond r66.2
                                     ((impl_DropClue k (r66.1, (r65.1.2.2.2.length : Int))).bind fun r83 =>
                                      cond (!r83.2)
                                      (some false)
                                      ((laws_dPuzzle k (r83.1, r65.1)).bind fun r84 =>
                                       cond (!r84)
                                       (some false)
                                       (cond (inB (r65.1.2.2.2.length : Int) r66.1.2.2.2.length)
                                        (cond (!(((r66.1.2.2.2.getD ((r65.1.2.2.2.length : Int).toNat) default).1 == r65.2.1) && (((r66.1.2.2.2.getD ((r65.1.2.2.2.length : Int).toNat) default).2.1 == r65.2.2.1) && (((r66.1.2.2.2.getD ((r65.1.2.2.2.length : Int).toNat) default).2.2 == r65.2.2.2) && true))))
                                         (some false)
                                         (cond r69.2
                                          (cond (r68.2 == (w64 ((r68.1.2.2.2.length : Int) - 1)))
                                           (cond (inB r68.2 r68.1.2.2.2.length)
                                            ((impl_AddClue k (r69.1, (r68.1.2.2.2.getD r68.2.toNat default))).bind fun r85 =>
                                             cond (!r85.2)
                                             (some false)
                                             ((laws_dPuzzle k (r85.1, r68.1)).bind fun r86 =>
                                              cond (!r86)
                                              (some false)
                                              (cond r76.2
                                               ((laws_FnBoardsHidden_l k (r75.1, r75.2.1, r75.2.2, r76.1, 1, 0)).bind fun r87 =>
                                                some (r87.1 == r87.2))
                                               (some true))))
                                            (none))
                                           (cond r76.2
                                            ((laws_FnBoardsHidden_l k (r75.1, r75.2.1, r75.2.2, r76.1, 1, 0)).bind fun r88 =>
                                             some (r88.1 == r88.2))
                                            (some true)))
                                          (cond r76.2
                                           ((laws_FnBoardsHidden_l k (r75.1, r75.2.1, r75.2.2, r76.1, 1, 0)).bind fun r89 =>
                                            some (r89.1 == r89.2))
                                           (some true))))
                                        (none))))
                                     (cond r69.2
                                      (cond (r68.2 == (w64 ((r68.1.2.2.2.length : Int) - 1)))
                                       (cond (inB r68.2 r68.1.2.2.2.length)
                                        ((impl_AddClue k (r69.1, (r68.1.2.2.2.getD r68.2.toNat default))).bind fun r90 =>
                                         cond (!r90.2)
                                         (some false)
                                         ((laws_dPuzzle k (r90.1, r68.1)).bind fun r91 =>
                                          cond (!r91)
                                          (some false)
                                          (cond r76.2
                                           ((laws_FnBoardsHidden_l k (r75.1, r75.2.1, r75.2.2, r76.1, 1, 0)).bind fun r92 =>
                                            some (r92.1 == r92.2))
                                           (some true))))
                                        (none))
                                       (cond r76.2
                                        ((laws_FnBoardsHidden_l k (r75.1, r75.2.1, r75.2.2, r76.1, 1, 0)).bind fun r93 =>
                                         some (r93.1 == r93.2))
                                        (some true)))
                                      (cond r76.2
                                       ((laws_FnBoardsHidden_l k (r75.1, r75.2.1, r75.2.2, r76.1, 1, 0)).bind fun r94 =>
                                        some (r94.1 == r94.2))
                                       (some true)))))
                                   (cond r66.2
                                    ((impl_DropClue k (r66.1, (r65.1.2.2.2.length : Int))).bind fun r95 =>
                                     cond (!r95.2)
                                     (some false)
                                     ((laws_dPuzzle k (r95.1, r65.1)).bind fun r96 =>
                                      cond (!r96)
                                      (some false)
                                      (cond (inB (r65.1.2.2.2.length : Int) r66.1.2.2.2.length)
                                       (cond (!(((r66.1.2.2.2.getD ((r65.1.2.2.2.length : Int).toNat) default).1 == r65.2.1) && (((r66.1.2.2.2.getD ((r65.1.2.2.2.length : Int).toNat) default).2.1 == r65.2.2.1) && (((r66.1.2.2.2.getD ((r65.1.2.2.2.length : Int).toNat) default).2.2 == r65.2.2.2) && true))))
                                        (some false)
                                        (cond r69.2
                                         (cond (r68.2 == (w64 ((r68.1.2.2.2.length : Int) - 1)))
                                          (cond (inB r68.2 r68.1.2.2.2.length)
                                           ((impl_AddClue k (r69.1, (r68.1.2.2.2.getD r68.2.toNat default))).bind fun r97 =>
                                            cond (!r97.2)
                                            (some false)
                                            ((laws_dPuzzle k (r97.1, r68.1)).bind fun r98 =>
                                             cond (!r98)
                                             (some false)
                                             (cond r76.2
                                              ((laws_FnBoardsHidden_l k (r75.1, r75.2.1, r75.2.2, r76.1, 1, 0)).bind fun r99 =>
                                               some (r99.1 == r99.2))
                                              (some true))))
                                           (none))
                                          (cond r76.2
                                           ((laws_FnBoardsHidden_l k (r75.1, r75.2.1, r75.2.2, r76.1, 1, 0)).bind fun r100 =>
                                            some (r100.1 == r100.2))
                                           (some true)))
                                         (cond r76.2
                                          ((laws_FnBoardsHidden_l k (r75.1, r75.2.1, r75.2.2, r76.1, 1, 0)).bind fun r101 =>
                                           some (r101.1 == r101.2))
                                          (some true))))
                                       (none))))
                                    (cond r69.2
                                     (cond (r68.2 == (w64 ((r68.1.2.2.2.length : Int) - 1)))
                                      (cond (inB r68.2 r68.1.2.2.2.length)
                                       ((impl_AddClue k (r69.1, (r68.1.2.2.2.getD r68.2.toNat default))).bind fun r102 =>
                                        cond (!r102.2)
                                        (some false)
                                        ((laws_dPuzzle k (r102.1, r68.1)).bind fun r103 =>
                                         cond (!r103)
                                         (some false)
                                         (cond r76.2
                                          ((laws_FnBoardsHidden_l k (r75.1, r75.2.1, r75.2.2, r76.1, 1, 0)).bind fun r104 =>
                                           some (r104.1 == r104.2))
                                          (some true))))
                                       (none))
                                      (cond r76.2
                                       ((laws_FnBoardsHidden_l k (r75.1, r75.2.1, r75.2.2, r76.1, 1, 0)).bind fun r105 =>
                                        some (r105.1 == r105.2))
                                       (some true)))
                                     (cond r76.2
                                      ((laws_FnBoardsHidden_l k (r75.1, r75.2.1, r75.2.2, r76.1, 1, 0)).bind fun r106 =>
                                       some (r106.1 == r106.2))
                                      (some true))))))))))))))))
                       (cond (!(r15.2 == false))
                        (some false)
                        (cond r15.2
                         ((impl_Solutions k r14).bind fun r107 =>
                          (impl_Solutions k r15.1).bind fun r108 =>
                          (impl_NeedlessClues k r15.1).bind fun r109 =>
                          cond (!r107.2)
                          (some false)
                          (cond (!r108.2)
                           (some false)
                           ((laws_dTexts k (r107.1, r108.1)).bind fun r110 =>
                            cond (!r110)
                            (some false)
                            (cond (!r109.2)
                             (some false)
                             (cond ((r109.1.length : Int) != 0)
                              (some false)
                              (cond (decide ((r15.1.2.2.2.length : Int) > (r14.2.2.2.length : Int)))
                               (some false)
                               ((spec_DrawAddClue k more).bind fun r111 =>
                                (impl_AddClue k r111).bind fun r112 =>
                                (spec_AddClue k r111).bind fun r113 =>
                                (spec_DrawDropClue k more).bind fun r114 =>
                                (impl_DropClue k r114).bind fun r115 =>
                                (spec_DropClue k r114).bind fun r116 =>
                                (spec_DrawDoesFit k more).bind fun r117 =>
                                (impl_DoesFit k r117).bind fun r118 =>
                                (spec_DoesFit k r117).bind fun r119 =>
                                (spec_DrawIsClue k more).bind fun r120 =>
                                (spec_DrawCountBoards k more).bind fun r121 =>
                                (impl_CountBoards k r121).bind fun r122 =>
                                (spec_CountBoards k r121).bind fun r123 =>
                                cond (!(r112.2 == r113.2))
                                (some false)
                                ((laws_dPuzzle k (r112.1, r113.1)).bind fun r124 =>
                                 cond (!r124)
                                 (some false)
                                 (cond (!(r115.2 == r116.2))
                                  (some false)
                                  ((laws_dPuzzle k (r115.1, r116.1)).bind fun r125 =>
                                   cond (!r125)
                                   (some false)
                                   (cond (!(r118.2 == r119.2))
                                    (some false)
                                    (cond (!(r118.1 == r119.1))
                                     (some false)
                                     ((impl_IsClue k r120).bind fun r126 =>
                                      (spec_IsClue k r120).bind fun r127 =>
                                      cond (!(r126 == r127))
                                      (some false)
                                      (cond (!(r122.2 == r123.2))
                                       (some false)
                                       (cond (r122.1 != r123.1)
                                        (some false)
                                        (cond r118.2
                                         ((impl_IsClue k (r117.2.1, (r117.2.2.2.2.1.size : Int), r117.1)).bind fun r128 =>
                                          cond (!r128)
                                          (some false)
                                          (cond r112.2
                                           ((impl_DropClue k (r112.1, (r111.1.2.2.2.length : Int))).bind fun r129 =>
                                            cond (!r129.2)
                                            (some false)
                                            ((laws_dPuzzle k (r129.1, r111.1)).bind fun r130 =>
                                             cond (!r130)
                                             (some false)
                                             (cond (inB (r111.1.2.2.2.length : Int) r112.1.2.2.2.length)
                                              (cond (!(((r112.1.2.2.2.getD ((r111.1.2.2.2.length : Int).toNat) default).1 == r111.2.1) && (((r112.1.2.2.2.getD ((r111.1.2.2.2.length : Int).toNat) default).2.1 == r111.2.2.1) && (((r112.1.2.2.2.getD ((r111.1.2.2.2.length : Int).toNat) default).2.2 == r111.2.2.2) && true))))
                                               (some false)
                                               (cond r115.2
                                                (cond (r114.2 == (w64 ((r114.1.2.2.2.length : Int) - 1)))
                                                 (cond (inB r114.2 r114.1.2.2.2.length)
                                                  ((impl_AddClue k (r115.1, (r114.1.2.2.2.getD r114.2.toNat default))).bind fun r131 =>
                                                   cond (!r131.2)
                                                   (some false)
                                                   ((laws_dPuzzle k (r131.1, r114.1)).bind fun r132 =>
                                                    cond (!r132)
                                                    (some false)
                                                    (cond r122.2
                                                     ((laws_FnBoardsHidden_l k (r121.1, r121.2.1, r121.2.2, r122.1, 1, 0)).bind fun r133 =>
                                                      some (r133.1 == r133.2))
                                                     (some true))))
                                                  (none))
                                                 (cond r122.2
                                                  ((laws_FnBoardsHidden_l k (r121.1, r121.2.1, r121.2.2, r122.1, 1, 0)).bind fun r134 =>
                                                   some (r134.1 == r134.2))
                                                  (some true)))
                                                (cond r122.2
                                                 ((laws_FnBoardsHidden_l k (r121.1, r121.2.1, r121.2.2, r122.1, 1, 0)).bind fun r135 =>
                                                  some (r135.1 == r135.2))
                                                 (some true))))
                                              (none))))
                                           (cond r115.2
                                            (cond (r114.2 == (w64 ((r114.1.2.2.2.length : Int) - 1)))
                                             (cond (inB r114.2 r114.1.2.2.2.length)
                                              ((impl_AddClue k (r115.1, (r114.1.2.2.2.getD r114.2.toNat default))).bind fun r136 =>
                                               cond (!r136.2)
                                               (some false)
                                               ((laws_dPuzzle k (r136.1, r114.1)).bind fun r137 =>
                                                cond (!r137)
                                                (some false)
                                                (cond r122.2
                                                 ((laws_FnBoardsHidden_l k (r121.1, r121.2.1, r121.2.2, r122.1, 1, 0)).bind fun r138 =>
                                                  some (r138.1 == r138.2))
                                                 (some true))))
                                              (none))
                                             (cond r122.2
                                              ((laws_FnBoardsHidden_l k (r121.1, r121.2.1, r121.2.2, r122.1, 1, 0)).bind fun r139 =>
                                               some (r139.1 == r139.2))
                                              (some true)))
                                            (cond r122.2
                                             ((laws_FnBoardsHidden_l k (r121.1, r121.2.1, r121.2.2, r122.1, 1, 0)).bind fun r140 =>
                                              some (r140.1 == r140.2))
                                             (some true)))))
                                         (cond r112.2
                                          ((impl_DropClue k (r112.1, (r111.1.2.2.2.length : Int))).bind fun r141 =>
                                           cond (!r141.2)
                                           (some false)
                                           ((laws_dPuzzle k (r141.1, r111.1)).bind fun r142 =>
                                            cond (!r142)
                                            (some false)
                                            (cond (inB (r111.1.2.2.2.length : Int) r112.1.2.2.2.length)
                                             (cond (!(((r112.1.2.2.2.getD ((r111.1.2.2.2.length : Int).toNat) default).1 == r111.2.1) && (((r112.1.2.2.2.getD ((r111.1.2.2.2.length : Int).toNat) default).2.1 == r111.2.2.1) && (((r112.1.2.2.2.getD ((r111.1.2.2.2.length : Int).toNat) default).2.2 == r111.2.2.2) && true))))
                                              (some false)
                                              (cond r115.2
                                               (cond (r114.2 == (w64 ((r114.1.2.2.2.length : Int) - 1)))
                                                (cond (inB r114.2 r114.1.2.2.2.length)
                                                 ((impl_AddClue k (r115.1, (r114.1.2.2.2.getD r114.2.toNat default))).bind fun r143 =>
                                                  cond (!r143.2)
                                                  (some false)
                                                  ((laws_dPuzzle k (r143.1, r114.1)).bind fun r144 =>
                                                   cond (!r144)
                                                   (some false)
                                                   (cond r122.2
                                                    ((laws_FnBoardsHidden_l k (r121.1, r121.2.1, r121.2.2, r122.1, 1, 0)).bind fun r145 =>
                                                     some (r145.1 == r145.2))
                                                    (some true))))
                                                 (none))
                                                (cond r122.2
                                                 ((laws_FnBoardsHidden_l k (r121.1, r121.2.1, r121.2.2, r122.1, 1, 0)).bind fun r146 =>
                                                  some (r146.1 == r146.2))
                                                 (some true)))
                                               (cond r122.2
                                                ((laws_FnBoardsHidden_l k (r121.1, r121.2.1, r121.2.2, r122.1, 1, 0)).bind fun r147 =>
                                                 some (r147.1 == r147.2))
                                                (some true))))
                                             (none))))
                                          (cond r115.2
                                           (cond (r114.2 == (w64 ((r114.1.2.2.2.length : Int) - 1)))
                                            (cond (inB r114.2 r114.1.2.2.2.length)
                                             ((impl_AddClue k (r115.1, (r114.1.2.2.2.getD r114.2.toNat default))).bind fun r148 =>
                                              cond (!r148.2)
                                              (some false)
                                              ((laws_dPuzzle k (r148.1, r114.1)).bind fun r149 =>
                                               cond (!r149)
                                               (some false)
                                               (cond r122.2
                                                ((laws_FnBoardsHidden_l k (r121.1, r121.2.1, r121.2.2, r122.1, 1, 0)).bind fun r150 =>
                                                 some (r150.1 == r150.2))
                                                (some true))))
                                             (none))
                                            (cond r122.2
                                             ((laws_FnBoardsHidden_l k (r121.1, r121.2.1, r121.2.2, r122.1, 1, 0)).bind fun r151 =>
                                              some (r151.1 == r151.2))
                                             (some true)))
                                           (cond r122.2
                                            ((laws_FnBoardsHidden_l k (r121.1, r121.2.1, r121.2.2, r122.1, 1, 0)).bind fun r152 =>
                                             some (r152.1 == r152.2))
                                            (some true))))))))))))))))))))
                         ((spec_DrawAddClue k more).bind fun r153 =>
                          (impl_AddClue k r153).bind fun r154 =>
                          (spec_AddClue k r153).bind fun r155 =>
                          (spec_DrawDropClue k more).bind fun r156 =>
                          (impl_DropClue k r156).bind fun r157 =>
                          (spec_DropClue k r156).bind fun r158 =>
                          (spec_DrawDoesFit k more).bind fun r159 =>
                          (impl_DoesFit k r159).bind fun r160 =>
                          (spec_DoesFit k r159).bind fun r161 =>
                          (spec_DrawIsClue k more).bind fun r162 =>
                          (spec_DrawCountBoards k more).bind fun r163 =>
                          (impl_CountBoards k r163).bind fun r164 =>
                          (spec_CountBoards k r163).bind fun r165 =>
                          cond (!(r154.2 == r155.2))
                          (some false)
                          ((laws_dPuzzle k (r154.1, r155.1)).bind fun r166 =>
                           cond (!r166)
                           (some false)
                           (cond (!(r157.2 == r158.2))
                            (some false)
                            ((laws_dPuzzle k (r157.1, r158.1)).bind fun r167 =>
                             cond (!r167)
                             (some false)
                             (cond (!(r160.2 == r161.2))
                              (some false)
                              (cond (!(r160.1 == r161.1))
                               (some false)
                               ((impl_IsClue k r162).bind fun r168 =>
                                (spec_IsClue k r162).bind fun r169 =>
                                cond (!(r168 == r169))
                                (some false)
                                (cond (!(r164.2 == r165.2))
                                 (some false)
                                 (cond (r164.1 != r165.1)
                                  (some false)
                                  (cond r160.2
                                   ((impl_IsClue k (r159.2.1, (r159.2.2.2.2.1.size : Int), r159.1)).bind fun r170 =>
                                    cond (!r170)
                                    (some false)
                                    (cond r154.2
                                     ((impl_DropClue k (r154.1, (r153.1.2.2.2.length : Int))).bind fun r171 =>
                                      cond (!r171.2)
                                      (some false)
                                      ((laws_dPuzzle k (r171.1, r153.1)).bind fun r172 =>
                                       cond (!r172)
                                       (some false)
                                       (cond (inB (r153.1.2.2.2.length : Int) r154.1.2.2.2.length)
                                        (cond (!(((r154.1.2.2.2.getD ((r153.1.2.2.2.length : Int).toNat) default).1 == r153.2.1) && (((r154.1.2.2.2.getD ((r153.1.2.2.2.length : Int).toNat) default).2.1 == r153.2.2.1) && (((r154.1.2.2.2.getD ((r153.1.2.2.2.length : Int).toNat) default).2.2 == r153.2.2.2) && true))))
                                         (some false)
                                         (cond r157.2
                                          (cond (r156.2 == (w64 ((r156.1.2.2.2.length : Int) - 1)))
                                           (cond (inB r156.2 r156.1.2.2.2.length)
                                            ((impl_AddClue k (r157.1, (r156.1.2.2.2.getD r156.2.toNat default))).bind fun r173 =>
                                             cond (!r173.2)
                                             (some false)
                                             ((laws_dPuzzle k (r173.1, r156.1)).bind fun r174 =>
                                              cond (!r174)
                                              (some false)
                                              (cond r164.2
                                               ((laws_FnBoardsHidden_l k (r163.1, r163.2.1, r163.2.2, r164.1, 1, 0)).bind fun r175 =>
                                                some (r175.1 == r175.2))
                                               (some true))))
                                            (none))
                                           (cond r164.2
                                            ((laws_FnBoardsHidden_l k (r163.1, r163.2.1, r163.2.2, r164.1, 1, 0)).bind fun r176 =>
                                             some (r176.1 == r176.2))
                                            (some true)))
                                          (cond r164.2
                                           ((laws_FnBoardsHidden_l k (r163.1, r163.2.1, r163.2.2, r164.1, 1, 0)).bind fun r177 =>
                                            some (r177.1 == r177.2))
                                           (some true))))
                                        (none))))
                                     (cond r157.2
                                      (cond (r156.2 == (w64 ((r156.1.2.2.2.length : Int) - 1)))
                                       (cond (inB r156.2 r156.1.2.2.2.length)
                                        ((impl_AddClue k (r157.1, (r156.1.2.2.2.getD r156.2.toNat default))).bind fun r178 =>
                                         cond (!r178.2)
                                         (some false)
                                         ((laws_dPuzzle k (r178.1, r156.1)).bind fun r179 =>
                                          cond (!r179)
                                          (some false)
                                          (cond r164.2
                                           ((laws_FnBoardsHidden_l k (r163.1, r163.2.1, r163.2.2, r164.1, 1, 0)).bind fun r180 =>
                                            some (r180.1 == r180.2))
                                           (some true))))
                                        (none))
                                       (cond r164.2
                                        ((laws_FnBoardsHidden_l k (r163.1, r163.2.1, r163.2.2, r164.1, 1, 0)).bind fun r181 =>
                                         some (r181.1 == r181.2))
                                        (some true)))
                                      (cond r164.2
                                       ((laws_FnBoardsHidden_l k (r163.1, r163.2.1, r163.2.2, r164.1, 1, 0)).bind fun r182 =>
                                        some (r182.1 == r182.2))
                                       (some true)))))
                                   (cond r154.2
                                    ((impl_DropClue k (r154.1, (r153.1.2.2.2.length : Int))).bind fun r183 =>
                                     cond (!r183.2)
                                     (some false)
                                     ((laws_dPuzzle k (r183.1, r153.1)).bind fun r184 =>
                                      cond (!r184)
                                      (some false)
                                      (cond (inB (r153.1.2.2.2.length : Int) r154.1.2.2.2.length)
                                       (cond (!(((r154.1.2.2.2.getD ((r153.1.2.2.2.length : Int).toNat) default).1 == r153.2.1) && (((r154.1.2.2.2.getD ((r153.1.2.2.2.length : Int).toNat) default).2.1 == r153.2.2.1) && (((r154.1.2.2.2.getD ((r153.1.2.2.2.length : Int).toNat) default).2.2 == r153.2.2.2) && true))))
                                        (some false)
                                        (cond r157.2
                                         (cond (r156.2 == (w64 ((r156.1.2.2.2.length : Int) - 1)))
                                          (cond (inB r156.2 r156.1.2.2.2.length)
                                           ((impl_AddClue k (r157.1, (r156.1.2.2.2.getD r156.2.toNat default))).bind fun r185 =>
                                            cond (!r185.2)
                                            (some false)
                                            ((laws_dPuzzle k (r185.1, r156.1)).bind fun r186 =>
                                             cond (!r186)
                                             (some false)
                                             (cond r164.2
                                              ((laws_FnBoardsHidden_l k (r163.1, r163.2.1, r163.2.2, r164.1, 1, 0)).bind fun r187 =>
                                               some (r187.1 == r187.2))
                                              (some true))))
                                           (none))
                                          (cond r164.2
                                           ((laws_FnBoardsHidden_l k (r163.1, r163.2.1, r163.2.2, r164.1, 1, 0)).bind fun r188 =>
                                            some (r188.1 == r188.2))
                                           (some true)))
                                         (cond r164.2
                                          ((laws_FnBoardsHidden_l k (r163.1, r163.2.1, r163.2.2, r164.1, 1, 0)).bind fun r189 =>
                                           some (r189.1 == r189.2))
                                          (some true))))
                                       (none))))
                                    (cond r157.2
                                     (cond (r156.2 == (w64 ((r156.1.2.2.2.length : Int) - 1)))
                                      (cond (inB r156.2 r156.1.2.2.2.length)
                                       ((impl_AddClue k (r157.1, (r156.1.2.2.2.getD r156.2.toNat default))).bind fun r190 =>
                                        cond (!r190.2)
                                        (some false)
                                        ((laws_dPuzzle k (r190.1, r156.1)).bind fun r191 =>
                                         cond (!r191)
                                         (some false)
                                         (cond r164.2
                                          ((laws_FnBoardsHidden_l k (r163.1, r163.2.1, r163.2.2, r164.1, 1, 0)).bind fun r192 =>
                                           some (r192.1 == r192.2))
                                          (some true))))
                                       (none))
                                      (cond r164.2
                                       ((laws_FnBoardsHidden_l k (r163.1, r163.2.1, r163.2.2, r164.1, 1, 0)).bind fun r193 =>
                                        some (r193.1 == r193.2))
                                       (some true)))
                                     (cond r164.2
                                      ((laws_FnBoardsHidden_l k (r163.1, r163.2.1, r163.2.2, r164.1, 1, 0)).bind fun r194 =>
                                       some (r194.1 == r194.2))
                                      (some true)))))))))))))))))))))))))))))))
        (none))))
     ((spec_DrawHarderPuzzle k more).bind fun r195 =>
      (impl_HarderPuzzle k r195).bind fun r196 =>
      (spec_HarderPuzzle k r195).bind fun r197 =>
      (impl_IsSolved k r195).bind fun r198 =>
      cond (!(r196.2 == r197.2))
      (some false)
      ((laws_dPuzzle k (r196.1, r197.1)).bind fun r199 =>
       cond (!r199)
       (some false)
       (cond r198.2
        (cond (!(r196.2 == r198.1))
         (some false)
         (cond r196.2
          ((impl_Solutions k r195).bind fun r200 =>
           (impl_Solutions k r196.1).bind fun r201 =>
           (impl_NeedlessClues k r196.1).bind fun r202 =>
           cond (!r200.2)
           (some false)
           (cond (!r201.2)
            (some false)
            ((laws_dTexts k (r200.1, r201.1)).bind fun r203 =>
             cond (!r203)
             (some false)
             (cond (!r202.2)
              (some false)
              (cond ((r202.1.length : Int) != 0)
               (some false)
               (cond (decide ((r196.1.2.2.2.length : Int) > (r195.2.2.2.length : Int)))
                (some false)
                ((spec_DrawAddClue k more).bind fun r204 =>
                 (impl_AddClue k r204).bind fun r205 =>
                 (spec_AddClue k r204).bind fun r206 =>
                 (spec_DrawDropClue k more).bind fun r207 =>
                 (impl_DropClue k r207).bind fun r208 =>
                 (spec_DropClue k r207).bind fun r209 =>
                 (spec_DrawDoesFit k more).bind fun r210 =>
                 (impl_DoesFit k r210).bind fun r211 =>
                 (spec_DoesFit k r210).bind fun r212 =>
                 (spec_DrawIsClue k more).bind fun r213 =>
                 (spec_DrawCountBoards k more).bind fun r214 =>
                 (impl_CountBoards k r214).bind fun r215 =>
                 (spec_CountBoards k r214).bind fun r216 =>
                 cond (!(r205.2 == r206.2))
                 (some false)
                 ((laws_dPuzzle k (r205.1, r206.1)).bind fun r217 =>
                  cond (!r217)
                  (some false)
                  (cond (!(r208.2 == r209.2))
                   (some false)
                   ((laws_dPuzzle k (r208.1, r209.1)).bind fun r218 =>
                    cond (!r218)
                    (some false)
                    (cond (!(r211.2 == r212.2))
                     (some false)
                     (cond (!(r211.1 == r212.1))
                      (some false)
                      ((impl_IsClue k r213).bind fun r219 =>
                       (spec_IsClue k r213).bind fun r220 =>
                       cond (!(r219 == r220))
                       (some false)
                       (cond (!(r215.2 == r216.2))
                        (some false)
                        (cond (r215.1 != r216.1)
                         (some false)
                         (cond r211.2
                          ((impl_IsClue k (r210.2.1, (r210.2.2.2.2.1.size : Int), r210.1)).bind fun r221 =>
                           cond (!r221)
                           (some false)
                           (cond r205.2
                            ((impl_DropClue k (r205.1, (r204.1.2.2.2.length : Int))).bind fun r222 =>
                             cond (!r222.2)
                             (some false)
                             ((laws_dPuzzle k (r222.1, r204.1)).bind fun r223 =>
                              cond (!r223)
                              (some false)
                              (cond (inB (r204.1.2.2.2.length : Int) r205.1.2.2.2.length)
                               (cond (!(((r205.1.2.2.2.getD ((r204.1.2.2.2.length : Int).toNat) default).1 == r204.2.1) && (((r205.1.2.2.2.getD ((r204.1.2.2.2.length : Int).toNat) default).2.1 == r204.2.2.1) && (((r205.1.2.2.2.getD ((r204.1.2.2.2.length : Int).toNat) default).2.2 == r204.2.2.2) && true))))
                                (some false)
                                (cond r208.2
                                 (cond (r207.2 == (w64 ((r207.1.2.2.2.length : Int) - 1)))
                                  (cond (inB r207.2 r207.1.2.2.2.length)
                                   ((impl_AddClue k (r208.1, (r207.1.2.2.2.getD r207.2.toNat default))).bind fun r224 =>
                                    cond (!r224.2)
                                    (some false)
                                    ((laws_dPuzzle k (r224.1, r207.1)).bind fun r225 =>
                                     cond (!r225)
                                     (some false)
                                     (cond r215.2
                                      ((laws_FnBoardsHidden_l k (r214.1, r214.2.1, r214.2.2, r215.1, 1, 0)).bind fun r226 =>
                                       some (r226.1 == r226.2))
                                      (some true))))
                                   (none))
                                  (cond r215.2
                                   ((laws_FnBoardsHidden_l k (r214.1, r214.2.1, r214.2.2, r215.1, 1, 0)).bind fun r227 =>
                                    some (r227.1 == r227.2))
                                   (some true)))
                                 (cond r215.2
                                  ((laws_FnBoardsHidden_l k (r214.1, r214.2.1, r214.2.2, r215.1, 1, 0)).bind fun r228 =>
                                   some (r228.1 == r228.2))
                                  (some true))))
                               (none))))
                            (cond r208.2
                             (cond (r207.2 == (w64 ((r207.1.2.2.2.length : Int) - 1)))
                              (cond (inB r207.2 r207.1.2.2.2.length)
                               ((impl_AddClue k (r208.1, (r207.1.2.2.2.getD r207.2.toNat default))).bind fun r229 =>
                                cond (!r229.2)
                                (some false)
                                ((laws_dPuzzle k (r229.1, r207.1)).bind fun r230 =>
                                 cond (!r230)
                                 (some false)
                                 (cond r215.2
                                  ((laws_FnBoardsHidden_l k (r214.1, r214.2.1, r214.2.2, r215.1, 1, 0)).bind fun r231 =>
                                   some (r231.1 == r231.2))
                                  (some true))))
                               (none))
                              (cond r215.2
                               ((laws_FnBoardsHidden_l k (r214.1, r214.2.1, r214.2.2, r215.1, 1, 0)).bind fun r232 =>
                                some (r232.1 == r232.2))
                               (some true)))
                             (cond r215.2
                              ((laws_FnBoardsHidden_l k (r214.1, r214.2.1, r214.2.2, r215.1, 1, 0)).bind fun r233 =>
                               some (r233.1 == r233.2))
                              (some true)))))
                          (cond r205.2
                           ((impl_DropClue k (r205.1, (r204.1.2.2.2.length : Int))).bind fun r234 =>
                            cond (!r234.2)
                            (some false)
                            ((laws_dPuzzle k (r234.1, r204.1)).bind fun r235 =>
                             cond (!r235)
                             (some false)
                             (cond (inB (r204.1.2.2.2.length : Int) r205.1.2.2.2.length)
                              (cond (!(((r205.1.2.2.2.getD ((r204.1.2.2.2.length : Int).toNat) default).1 == r204.2.1) && (((r205.1.2.2.2.getD ((r204.1.2.2.2.length : Int).toNat) default).2.1 == r204.2.2.1) && (((r205.1.2.2.2.getD ((r204.1.2.2.2.length : Int).toNat) default).2.2 == r204.2.2.2) && true))))
                               (some false)
                               (cond r208.2
                                (cond (r207.2 == (w64 ((r207.1.2.2.2.length : Int) - 1)))
                                 (cond (inB r207.2 r207.1.2.2.2.length)
                                  ((impl_AddClue k (r208.1, (r207.1.2.2.2.getD r207.2.toNat default))).bind fun r236 =>
                                   cond (!r236.2)
                                   (some false)
                                   ((laws_dPuzzle k (r236.1, r207.1)).bind fun r237 =>
                                    cond (!r237)
                                    (some false)
                                    (cond r215.2
                                     ((laws_FnBoardsHidden_l k (r214.1, r214.2.1, r214.2.2, r215.1, 1, 0)).bind fun r238 =>
                                      some (r238.1 == r238.2))
                                     (some true))))
                                  (none))
                                 (cond r215.2
                                  ((laws_FnBoardsHidden_l k (r214.1, r214.2.1, r214.2.2, r215.1, 1, 0)).bind fun r239 =>
                                   some (r239.1 == r239.2))
                                  (some true)))
                                (cond r215.2
                                 ((laws_FnBoardsHidden_l k (r214.1, r214.2.1, r214.2.2, r215.1, 1, 0)).bind fun r240 =>
                                  some (r240.1 == r240.2))
                                 (some true))))
                              (none))))
                           (cond r208.2
                            (cond (r207.2 == (w64 ((r207.1.2.2.2.length : Int) - 1)))
                             (cond (inB r207.2 r207.1.2.2.2.length)
                              ((impl_AddClue k (r208.1, (r207.1.2.2.2.getD r207.2.toNat default))).bind fun r241 =>
                               cond (!r241.2)
                               (some false)
                               ((laws_dPuzzle k (r241.1, r207.1)).bind fun r242 =>
                                cond (!r242)
                                (some false)
                                (cond r215.2
                                 ((laws_FnBoardsHidden_l k (r214.1, r214.2.1, r214.2.2, r215.1, 1, 0)).bind fun r243 =>
                                  some (r243.1 == r243.2))
                                 (some true))))
                              (none))
                             (cond r215.2
                              ((laws_FnBoardsHidden_l k (r214.1, r214.2.1, r214.2.2, r215.1, 1, 0)).bind fun r244 =>
                               some (r244.1 == r244.2))
                              (some true)))
                            (cond r215.2
                             ((laws_FnBoardsHidden_l k (r214.1, r214.2.1, r214.2.2, r215.1, 1, 0)).bind fun r245 =>
                              some (r245.1 == r245.2))
                             (some true))))))))))))))))))))
          ((spec_DrawAddClue k more).bind fun r246 =>
           (impl_AddClue k r246).bind fun r247 =>
           (spec_AddClue k r246).bind fun r248 =>
           (spec_DrawDropClue k more).bind fun r249 =>
           (impl_DropClue k r249).bind fun r250 =>
           (spec_DropClue k r249).bind fun r251 =>
           (spec_DrawDoesFit k more).bind fun r252 =>
           (impl_DoesFit k r252).bind fun r253 =>
           (spec_DoesFit k r252).bind fun r254 =>
           (spec_DrawIsClue k more).bind fun r255 =>
           (spec_DrawCountBoards k more).bind fun r256 =>
           (impl_CountBoards k r256).bind fun r257 =>
           (spec_CountBoards k r256).bind fun r258 =>
           cond (!(r247.2 == r248.2))
           (some false)
           ((laws_dPuzzle k (r247.1, r248.1)).bind fun r259 =>
            cond (!r259)
            (some false)
            (cond (!(r250.2 == r251.2))
             (some false)
             ((laws_dPuzzle k (r250.1, r251.1)).bind fun r260 =>
              cond (!r260)
              (some false)
              (cond (!(r253.2 == r254.2))
               (some false)
               (cond (!(r253.1 == r254.1))
                (some false)
                ((impl_IsClue k r255).bind fun r261 =>
                 (spec_IsClue k r255).bind fun r262 =>
                 cond (!(r261 == r262))
                 (some false)
                 (cond (!(r257.2 == r258.2))
                  (some false)
                  (cond (r257.1 != r258.1)
                   (some false)
                   (cond r253.2
                    ((impl_IsClue k (r252.2.1, (r252.2.2.2.2.1.size : Int), r252.1)).bind fun r263 =>
                     cond (!r263)
                     (some false)
                     (cond r247.2
                      ((impl_DropClue k (r247.1, (r246.1.2.2.2.length : Int))).bind fun r264 =>
                       cond (!r264.2)
                       (some false)
                       ((laws_dPuzzle k (r264.1, r246.1)).bind fun r265 =>
                        cond (!r265)
                        (some false)
                        (cond (inB (r246.1.2.2.2.length : Int) r247.1.2.2.2.length)
                         (cond (!(((r247.1.2.2.2.getD ((r246.1.2.2.2.length : Int).toNat) default).1 == r246.2.1) && (((r247.1.2.2.2.getD ((r246.1.2.2.2.length : Int).toNat) default).2.1 == r246.2.2.1) && (((r247.1.2.2.2.getD ((r246.1.2.2.2.length : Int).toNat) default).2.2 == r246.2.2.2) && true))))
                          (some false)
                          (cond r250.2
                           (cond (r249.2 == (w64 ((r249.1.2.2.2.length : Int) - 1)))
                            (cond (inB r249.2 r249.1.2.2.2.length)
                             ((impl_AddClue k (r250.1, (r249.1.2.2.2.getD r249.2.toNat default))).bind fun r266 =>
                              cond (!r266.2)
                              (some false)
                              ((laws_dPuzzle k (r266.1, r249.1)).bind fun r267 =>
                               cond (!r267)
                               (some false)
                               (cond r257.2
                                ((laws_FnBoardsHidden_l k (r256.1, r256.2.1, r256.2.2, r257.1, 1, 0)).bind fun r268 =>
                                 some (r268.1 == r268.2))
                                (some true))))
                             (none))
                            (cond r257.2
                             ((laws_FnBoardsHidden_l k (r256.1, r256.2.1, r256.2.2, r257.1, 1, 0)).bind fun r269 =>
                              some (r269.1 == r269.2))
                             (some true)))
                           (cond r257.2
                            ((laws_FnBoardsHidden_l k (r256.1, r256.2.1, r256.2.2, r257.1, 1, 0)).bind fun r270 =>
                             some (r270.1 == r270.2))
                            (some true))))
                         (none))))
                      (cond r250.2
                       (cond (r249.2 == (w64 ((r249.1.2.2.2.length : Int) - 1)))
                        (cond (inB r249.2 r249.1.2.2.2.length)
                         ((impl_AddClue k (r250.1, (r249.1.2.2.2.getD r249.2.toNat default))).bind fun r271 =>
                          cond (!r271.2)
                          (some false)
                          ((laws_dPuzzle k (r271.1, r249.1)).bind fun r272 =>
                           cond (!r272)
                           (some false)
                           (cond r257.2
                            ((laws_FnBoardsHidden_l k (r256.1, r256.2.1, r256.2.2, r257.1, 1, 0)).bind fun r273 =>
                             some (r273.1 == r273.2))
                            (some true))))
                         (none))
                        (cond r257.2
                         ((laws_FnBoardsHidden_l k (r256.1, r256.2.1, r256.2.2, r257.1, 1, 0)).bind fun r274 =>
                          some (r274.1 == r274.2))
                         (some true)))
                       (cond r257.2
                        ((laws_FnBoardsHidden_l k (r256.1, r256.2.1, r256.2.2, r257.1, 1, 0)).bind fun r275 =>
                         some (r275.1 == r275.2))
                        (some true)))))
                    (cond r247.2
                     ((impl_DropClue k (r247.1, (r246.1.2.2.2.length : Int))).bind fun r276 =>
                      cond (!r276.2)
                      (some false)
                      ((laws_dPuzzle k (r276.1, r246.1)).bind fun r277 =>
                       cond (!r277)
                       (some false)
                       (cond (inB (r246.1.2.2.2.length : Int) r247.1.2.2.2.length)
                        (cond (!(((r247.1.2.2.2.getD ((r246.1.2.2.2.length : Int).toNat) default).1 == r246.2.1) && (((r247.1.2.2.2.getD ((r246.1.2.2.2.length : Int).toNat) default).2.1 == r246.2.2.1) && (((r247.1.2.2.2.getD ((r246.1.2.2.2.length : Int).toNat) default).2.2 == r246.2.2.2) && true))))
                         (some false)
                         (cond r250.2
                          (cond (r249.2 == (w64 ((r249.1.2.2.2.length : Int) - 1)))
                           (cond (inB r249.2 r249.1.2.2.2.length)
                            ((impl_AddClue k (r250.1, (r249.1.2.2.2.getD r249.2.toNat default))).bind fun r278 =>
                             cond (!r278.2)
                             (some false)
                             ((laws_dPuzzle k (r278.1, r249.1)).bind fun r279 =>
                              cond (!r279)
                              (some false)
                              (cond r257.2
                               ((laws_FnBoardsHidden_l k (r256.1, r256.2.1, r256.2.2, r257.1, 1, 0)).bind fun r280 =>
                                some (r280.1 == r280.2))
                               (some true))))
                            (none))
                           (cond r257.2
                            ((laws_FnBoardsHidden_l k (r256.1, r256.2.1, r256.2.2, r257.1, 1, 0)).bind fun r281 =>
                             some (r281.1 == r281.2))
                            (some true)))
                          (cond r257.2
                           ((laws_FnBoardsHidden_l k (r256.1, r256.2.1, r256.2.2, r257.1, 1, 0)).bind fun r282 =>
                            some (r282.1 == r282.2))
                           (some true))))
                        (none))))
                     (cond r250.2
                      (cond (r249.2 == (w64 ((r249.1.2.2.2.length : Int) - 1)))
                       (cond (inB r249.2 r249.1.2.2.2.length)
                        ((impl_AddClue k (r250.1, (r249.1.2.2.2.getD r249.2.toNat default))).bind fun r283 =>
                         cond (!r283.2)
                         (some false)
                         ((laws_dPuzzle k (r283.1, r249.1)).bind fun r284 =>
                          cond (!r284)
                          (some false)
                          (cond r257.2
                           ((laws_FnBoardsHidden_l k (r256.1, r256.2.1, r256.2.2, r257.1, 1, 0)).bind fun r285 =>
                            some (r285.1 == r285.2))
                           (some true))))
                        (none))
                       (cond r257.2
                        ((laws_FnBoardsHidden_l k (r256.1, r256.2.1, r256.2.2, r257.1, 1, 0)).bind fun r286 =>
                         some (r286.1 == r286.2))
                        (some true)))
                      (cond r257.2
                       ((laws_FnBoardsHidden_l k (r256.1, r256.2.1, r256.2.2, r257.1, 1, 0)).bind fun r287 =>
                        some (r287.1 == r287.2))
                       (some true))))))))))))))))
        (cond (!(r196.2 == false))
         (some false)
         (cond r196.2
          ((impl_Solutions k r195).bind fun r288 =>
           (impl_Solutions k r196.1).bind fun r289 =>
           (impl_NeedlessClues k r196.1).bind fun r290 =>
           cond (!r288.2)
           (some false)
           (cond (!r289.2)
            (some false)
            ((laws_dTexts k (r288.1, r289.1)).bind fun r291 =>
             cond (!r291)
             (some false)
             (cond (!r290.2)
              (some false)
              (cond ((r290.1.length : Int) != 0)
               (some false)
               (cond (decide ((r196.1.2.2.2.length : Int) > (r195.2.2.2.length : Int)))
                (some false)
                ((spec_DrawAddClue k more).bind fun r292 =>
                 (impl_AddClue k r292).bind fun r293 =>
                 (spec_AddClue k r292).bind fun r294 =>
                 (spec_DrawDropClue k more).bind fun r295 =>
                 (impl_DropClue k r295).bind fun r296 =>
                 (spec_DropClue k r295).bind fun r297 =>
                 (spec_DrawDoesFit k more).bind fun r298 =>
                 (impl_DoesFit k r298).bind fun r299 =>
                 (spec_DoesFit k r298).bind fun r300 =>
                 (spec_DrawIsClue k more).bind fun r301 =>
                 (spec_DrawCountBoards k more).bind fun r302 =>
                 (impl_CountBoards k r302).bind fun r303 =>
                 (spec_CountBoards k r302).bind fun r304 =>
                 cond (!(r293.2 == r294.2))
                 (some false)
                 ((laws_dPuzzle k (r293.1, r294.1)).bind fun r305 =>
                  cond (!r305)
                  (some false)
                  (cond (!(r296.2 == r297.2))
                   (some false)
                   ((laws_dPuzzle k (r296.1, r297.1)).bind fun r306 =>
                    cond (!r306)
                    (some false)
                    (cond (!(r299.2 == r300.2))
                     (some false)
                     (cond (!(r299.1 == r300.1))
                      (some false)
                      ((impl_IsClue k r301).bind fun r307 =>
                       (spec_IsClue k r301).bind fun r308 =>
                       cond (!(r307 == r308))
                       (some false)
                       (cond (!(r303.2 == r304.2))
                        (some false)
                        (cond (r303.1 != r304.1)
                         (some false)
                         (cond r299.2
                          ((impl_IsClue k (r298.2.1, (r298.2.2.2.2.1.size : Int), r298.1)).bind fun r309 =>
                           cond (!r309)
                           (some false)
                           (cond r293.2
                            ((impl_DropClue k (r293.1, (r292.1.2.2.2.length : Int))).bind fun r310 =>
                             cond (!r310.2)
                             (some false)
                             ((laws_dPuzzle k (r310.1, r292.1)).bind fun r311 =>
                              cond (!r311)
                              (some false)
                              (cond (inB (r292.1.2.2.2.length : Int) r293.1.2.2.2.length)
                               (cond (!(((r293.1.2.2.2.getD ((r292.1.2.2.2.length : Int).toNat) default).1 == r292.2.1) && (((r293.1.2.2.2.getD ((r292.1.2.2.2.length : Int).toNat) default).2.1 == r292.2.2.1) && (((r293.1.2.2.2.getD ((r292.1.2.2.2.length : Int).toNat) default).2.2 == r292.2.2.2) && true))))
                                (some false)
                                (cond r296.2
                                 (cond (r295.2 == (w64 ((r295.1.2.2.2.length : Int) - 1)))
                                  (cond (inB r295.2 r295.1.2.2.2.length)
                                   ((impl_AddClue k (r296.1, (r295.1.2.2.2.getD r295.2.toNat default))).bind fun r312 =>
                                    cond (!r312.2)
                                    (some false)
                                    ((laws_dPuzzle k (r312.1, r295.1)).bind fun r313 =>
                                     cond (!r313)
                                     (some false)
                                     (cond r303.2
                                      ((laws_FnBoardsHidden_l k (r302.1, r302.2.1, r302.2.2, r303.1, 1, 0)).bind fun r314 =>
                                       some (r314.1 == r314.2))
                                      (some true))))
                                   (none))
                                  (cond r303.2
                                   ((laws_FnBoardsHidden_l k (r302.1, r302.2.1, r302.2.2, r303.1, 1, 0)).bind fun r315 =>
                                    some (r315.1 == r315.2))
                                   (some true)))
                                 (cond r303.2
                                  ((laws_FnBoardsHidden_l k (r302.1, r302.2.1, r302.2.2, r303.1, 1, 0)).bind fun r316 =>
                                   some (r316.1 == r316.2))
                                  (some true))))
                               (none))))
                            (cond r296.2
                             (cond (r295.2 == (w64 ((r295.1.2.2.2.length : Int) - 1)))
                              (cond (inB r295.2 r295.1.2.2.2.length)
                               ((impl_AddClue k (r296.1, (r295.1.2.2.2.getD r295.2.toNat default))).bind fun r317 =>
                                cond (!r317.2)
                                (some false)
                                ((laws_dPuzzle k (r317.1, r295.1)).bind fun r318 =>
                                 cond (!r318)
                                 (some false)
                                 (cond r303.2
                                  ((laws_FnBoardsHidden_l k (r302.1, r302.2.1, r302.2.2, r303.1, 1, 0)).bind fun r319 =>
                                   some (r319.1 == r319.2))
                                  (some true))))
                               (none))
                              (cond r303.2
                               ((laws_FnBoardsHidden_l k (r302.1, r302.2.1, r302.2.2, r303.1, 1, 0)).bind fun r320 =>
                                some (r320.1 == r320.2))
                               (some true)))
                             (cond r303.2
                              ((laws_FnBoardsHidden_l k (r302.1, r302.2.1, r302.2.2, r303.1, 1, 0)).bind fun r321 =>
                               some (r321.1 == r321.2))
                              (some true)))))
                          (cond r293.2
                           ((impl_DropClue k (r293.1, (r292.1.2.2.2.length : Int))).bind fun r322 =>
                            cond (!r322.2)
                            (some false)
                            ((laws_dPuzzle k (r322.1, r292.1)).bind fun r323 =>
                             cond (!r323)
                             (some false)
                             (cond (inB (r292.1.2.2.2.length : Int) r293.1.2.2.2.length)
                              (cond (!(((r293.1.2.2.2.getD ((r292.1.2.2.2.length : Int).toNat) default).1 == r292.2.1) && (((r293.1.2.2.2.getD ((r292.1.2.2.2.length : Int).toNat) default).2.1 == r292.2.2.1) && (((r293.1.2.2.2.getD ((r292.1.2.2.2.length : Int).toNat) default).2.2 == r292.2.2.2) && true))))
                               (some false)
                               (cond r296.2
                                (cond (r295.2 == (w64 ((r295.1.2.2.2.length : Int) - 1)))
                                 (cond (inB r295.2 r295.1.2.2.2.length)
                                  ((impl_AddClue k (r296.1, (r295.1.2.2.2.getD r295.2.toNat default))).bind fun r324 =>
                                   cond (!r324.2)
                                   (some false)
                                   ((laws_dPuzzle k (r324.1, r295.1)).bind fun r325 =>
                                    cond (!r325)
                                    (some false)
                                    (cond r303.2
                                     ((laws_FnBoardsHidden_l k (r302.1, r302.2.1, r302.2.2, r303.1, 1, 0)).bind fun r326 =>
                                      some (r326.1 == r326.2))
                                     (some true))))
                                  (none))
                                 (cond r303.2
                                  ((laws_FnBoardsHidden_l k (r302.1, r302.2.1, r302.2.2, r303.1, 1, 0)).bind fun r327 =>
                                   some (r327.1 == r327.2))
                                  (some true)))
                                (cond r303.2
                                 ((laws_FnBoardsHidden_l k (r302.1, r302.2.1, r302.2.2, r303.1, 1, 0)).bind fun r328 =>
                                  some (r328.1 == r328.2))
                                 (some true))))
                              (none))))
                           (cond r296.2
                            (cond (r295.2 == (w64 ((r295.1.2.2.2.length : Int) - 1)))
                             (cond (inB r295.2 r295.1.2.2.2.length)
                              ((impl_AddClue k (r296.1, (r295.1.2.2.2.getD r295.2.toNat default))).bind fun r329 =>
                               cond (!r329.2)
                               (some false)
                               ((laws_dPuzzle k (r329.1, r295.1)).bind fun r330 =>
                                cond (!r330)
                                (some false)
                                (cond r303.2
                                 ((laws_FnBoardsHidden_l k (r302.1, r302.2.1, r302.2.2, r303.1, 1, 0)).bind fun r331 =>
                                  some (r331.1 == r331.2))
                                 (some true))))
                              (none))
                             (cond r303.2
                              ((laws_FnBoardsHidden_l k (r302.1, r302.2.1, r302.2.2, r303.1, 1, 0)).bind fun r332 =>
                               some (r332.1 == r332.2))
                              (some true)))
                            (cond r303.2
                             ((laws_FnBoardsHidden_l k (r302.1, r302.2.1, r302.2.2, r303.1, 1, 0)).bind fun r333 =>
                              some (r333.1 == r333.2))
                             (some true))))))))))))))))))))
          ((spec_DrawAddClue k more).bind fun r334 =>
           (impl_AddClue k r334).bind fun r335 =>
           (spec_AddClue k r334).bind fun r336 =>
           (spec_DrawDropClue k more).bind fun r337 =>
           (impl_DropClue k r337).bind fun r338 =>
           (spec_DropClue k r337).bind fun r339 =>
           (spec_DrawDoesFit k more).bind fun r340 =>
           (impl_DoesFit k r340).bind fun r341 =>
           (spec_DoesFit k r340).bind fun r342 =>
           (spec_DrawIsClue k more).bind fun r343 =>
           (spec_DrawCountBoards k more).bind fun r344 =>
           (impl_CountBoards k r344).bind fun r345 =>
           (spec_CountBoards k r344).bind fun r346 =>
           cond (!(r335.2 == r336.2))
           (some false)
           ((laws_dPuzzle k (r335.1, r336.1)).bind fun r347 =>
            cond (!r347)
            (some false)
            (cond (!(r338.2 == r339.2))
             (some false)
             ((laws_dPuzzle k (r338.1, r339.1)).bind fun r348 =>
              cond (!r348)
              (some false)
              (cond (!(r341.2 == r342.2))
               (some false)
               (cond (!(r341.1 == r342.1))
                (some false)
                ((impl_IsClue k r343).bind fun r349 =>
                 (spec_IsClue k r343).bind fun r350 =>
                 cond (!(r349 == r350))
                 (some false)
                 (cond (!(r345.2 == r346.2))
                  (some false)
                  (cond (r345.1 != r346.1)
                   (some false)
                   (cond r341.2
                    ((impl_IsClue k (r340.2.1, (r340.2.2.2.2.1.size : Int), r340.1)).bind fun r351 =>
                     cond (!r351)
                     (some false)
                     (cond r335.2
                      ((impl_DropClue k (r335.1, (r334.1.2.2.2.length : Int))).bind fun r352 =>
                       cond (!r352.2)
                       (some false)
                       ((laws_dPuzzle k (r352.1, r334.1)).bind fun r353 =>
                        cond (!r353)
                        (some false)
                        (cond (inB (r334.1.2.2.2.length : Int) r335.1.2.2.2.length)
                         (cond (!(((r335.1.2.2.2.getD ((r334.1.2.2.2.length : Int).toNat) default).1 == r334.2.1) && (((r335.1.2.2.2.getD ((r334.1.2.2.2.length : Int).toNat) default).2.1 == r334.2.2.1) && (((r335.1.2.2.2.getD ((r334.1.2.2.2.length : Int).toNat) default).2.2 == r334.2.2.2) && true))))
                          (some false)
                          (cond r338.2
                           (cond (r337.2 == (w64 ((r337.1.2.2.2.length : Int) - 1)))
                            (cond (inB r337.2 r337.1.2.2.2.length)
                             ((impl_AddClue k (r338.1, (r337.1.2.2.2.getD r337.2.toNat default))).bind fun r354 =>
                              cond (!r354.2)
                              (some false)
                              ((laws_dPuzzle k (r354.1, r337.1)).bind fun r355 =>
                               cond (!r355)
                               (some false)
                               (cond r345.2
                                ((laws_FnBoardsHidden_l k (r344.1, r344.2.1, r344.2.2, r345.1, 1, 0)).bind fun r356 =>
                                 some (r356.1 == r356.2))
                                (some true))))
                             (none))
                            (cond r345.2
                             ((laws_FnBoardsHidden_l k (r344.1, r344.2.1, r344.2.2, r345.1, 1, 0)).bind fun r357 =>
                              some (r357.1 == r357.2))
                             (some true)))
                           (cond r345.2
                            ((laws_FnBoardsHidden_l k (r344.1, r344.2.1, r344.2.2, r345.1, 1, 0)).bind fun r358 =>
                             some (r358.1 == r358.2))
                            (some true))))
                         (none))))
                      (cond r338.2
                       (cond (r337.2 == (w64 ((r337.1.2.2.2.length : Int) - 1)))
                        (cond (inB r337.2 r337.1.2.2.2.length)
                         ((impl_AddClue k (r338.1, (r337.1.2.2.2.getD r337.2.toNat default))).bind fun r359 =>
                          cond (!r359.2)
                          (some false)
                          ((laws_dPuzzle k (r359.1, r337.1)).bind fun r360 =>
                           cond (!r360)
                           (some false)
                           (cond r345.2
                            ((laws_FnBoardsHidden_l k (r344.1, r344.2.1, r344.2.2, r345.1, 1, 0)).bind fun r361 =>
                             some (r361.1 == r361.2))
                            (some true))))
                         (none))
                        (cond r345.2
                         ((laws_FnBoardsHidden_l k (r344.1, r344.2.1, r344.2.2, r345.1, 1, 0)).bind fun r362 =>
                          some (r362.1 == r362.2))
                         (some true)))
                       (cond r345.2
                        ((laws_FnBoardsHidden_l k (r344.1, r344.2.1, r344.2.2, r345.1, 1, 0)).bind fun r363 =>
                         some (r363.1 == r363.2))
                        (some true)))))
                    (cond r335.2
                     ((impl_DropClue k (r335.1, (r334.1.2.2.2.length : Int))).bind fun r364 =>
                      cond (!r364.2)
                      (some false)
                      ((laws_dPuzzle k (r364.1, r334.1)).bind fun r365 =>
                       cond (!r365)
                       (some false)
                       (cond (inB (r334.1.2.2.2.length : Int) r335.1.2.2.2.length)
                        (cond (!(((r335.1.2.2.2.getD ((r334.1.2.2.2.length : Int).toNat) default).1 == r334.2.1) && (((r335.1.2.2.2.getD ((r334.1.2.2.2.length : Int).toNat) default).2.1 == r334.2.2.1) && (((r335.1.2.2.2.getD ((r334.1.2.2.2.length : Int).toNat) default).2.2 == r334.2.2.2) && true))))
                         (some false)
                         (cond r338.2
                          (cond (r337.2 == (w64 ((r337.1.2.2.2.length : Int) - 1)))
                           (cond (inB r337.2 r337.1.2.2.2.length)
                            ((impl_AddClue k (r338.1, (r337.1.2.2.2.getD r337.2.toNat default))).bind fun r366 =>
                             cond (!r366.2)
                             (some false)
                             ((laws_dPuzzle k (r366.1, r337.1)).bind fun r367 =>
                              cond (!r367)
                              (some false)
                              (cond r345.2
                               ((laws_FnBoardsHidden_l k (r344.1, r344.2.1, r344.2.2, r345.1, 1, 0)).bind fun r368 =>
                                some (r368.1 == r368.2))
                               (some true))))
                            (none))
                           (cond r345.2
                            ((laws_FnBoardsHidden_l k (r344.1, r344.2.1, r344.2.2, r345.1, 1, 0)).bind fun r369 =>
                             some (r369.1 == r369.2))
                            (some true)))
                          (cond r345.2
                           ((laws_FnBoardsHidden_l k (r344.1, r344.2.1, r344.2.2, r345.1, 1, 0)).bind fun r370 =>
                            some (r370.1 == r370.2))
                           (some true))))
                        (none))))
                     (cond r338.2
                      (cond (r337.2 == (w64 ((r337.1.2.2.2.length : Int) - 1)))
                       (cond (inB r337.2 r337.1.2.2.2.length)
                        ((impl_AddClue k (r338.1, (r337.1.2.2.2.getD r337.2.toNat default))).bind fun r371 =>
                         cond (!r371.2)
                         (some false)
                         ((laws_dPuzzle k (r371.1, r337.1)).bind fun r372 =>
                          cond (!r372)
                          (some false)
                          (cond r345.2
                           ((laws_FnBoardsHidden_l k (r344.1, r344.2.1, r344.2.2, r345.1, 1, 0)).bind fun r373 =>
                            some (r373.1 == r373.2))
                           (some true))))
                        (none))
                       (cond r345.2
                        ((laws_FnBoardsHidden_l k (r344.1, r344.2.1, r344.2.2, r345.1, 1, 0)).bind fun r374 =>
                         some (r374.1 == r374.2))
                        (some true)))
                      (cond r345.2
                       ((laws_FnBoardsHidden_l k (r344.1, r344.2.1, r344.2.2, r345.1, 1, 0)).bind fun r375 =>
                        some (r375.1 == r375.2))
                       (some true)))))))))))))))))))))) := by kernel_rfl
end Go.Proofs.YtmdgodjcfhimbaaGreatDoorS
