/- What each function computes (printed by wip/sim/gen.py). -/
import Derived.Test.YtplamonjnlgomaaGreatDoorTab
namespace Go.Proofs.YtplamonjnlgomaaGreatDoorS
open Go Go.Proofs
set_option maxRecDepth 100000
set_option linter.unusedVariables false
theorem laws_FnBoardsGuessed.eq (k : Nat) (code : List Int) (more : List Int) : laws_FnBoardsGuessed (k + 1) (code, more) =
  (laws_big k (code, more)).bind fun r1 =>
  cond r1
  (some true)
  ((spec_DrawSolutions k code).bind fun r2 =>
   (impl_Solutions k r2).bind fun r3 =>
   (spec_Solutions k r2).bind fun r4 =>
   (impl_CountSolutions k r2).bind fun r5 =>
   (spec_CountSolutions k r2).bind fun r6 =>
   (impl_FirstSolution k r2).bind fun r7 =>
   (spec_FirstSolution k r2).bind fun r8 =>
   (impl_SureCells k r2).bind fun r9 =>
   (spec_SureCells k r2).bind fun r10 =>
   (impl_IsSolved k r2).bind fun r11 =>
   (spec_IsSolved k r2).bind fun r12 =>
   (impl_NeedlessClues k r2).bind fun r13 =>
   (spec_NeedlessClues k r2).bind fun r14 =>
   (impl_LeftByClues k r2).bind fun r15 =>
   (spec_LeftByClues k r2).bind fun r16 =>
   (impl_BestClue k r2).bind fun r17 =>
   (spec_BestClue k r2).bind fun r18 =>
   (impl_PuzzleText k r2).bind fun r19 =>
   (spec_PuzzleText k r2).bind fun r20 =>
   cond (!(r3.2 == r4.2))
   (some false)
   ((laws_dTexts k (r3.1, r4.1)).bind fun r21 =>
    cond (!r21)
    (some false)
    (cond (!(r5.2 == r6.2))
     (some false)
     (cond (r5.1 != r6.1)
      (some false)
      (cond (!(r7.2 == r8.2))
       (some false)
       (cond (!(strEq r7.1 r8.1))
        (some false)
        (cond (!(r9.2 == r10.2))
         (some false)
         (cond (!(strEq r9.1 r10.1))
          (some false)
          (cond (!(r11.2 == r12.2))
           (some false)
           (cond (!(r11.1 == r12.1))
            (some false)
            (cond (!(r13.2 == r14.2))
             (some false)
             ((laws_dSame k (r13.1, r14.1)).bind fun r22 =>
              cond (!r22)
              (some false)
              (cond (!(r15.2 == r16.2))
               (some false)
               ((laws_dSame k (r15.1, r16.1)).bind fun r23 =>
                cond (!r23)
                (some false)
                (cond (!(r17.2 == r18.2))
                 (some false)
                 (cond (r17.1 != r18.1)
                  (some false)
                  (cond (!(r19.2 == r20.2))
                   (some false)
                   (cond (!(strEq r19.1 r20.1))
                    (some false)
                    ((impl_IsPuzzle k r2).bind fun r24 =>
                     cond (!(r3.2 == r24))
                     (some false)
                     ((impl_IsPuzzle k r2).bind fun r25 =>
                      (spec_IsPuzzle k r2).bind fun r26 =>
                      cond (!(r25 == r26))
                      (some false)
                      (cond (!(r5.2 == r3.2))
                       (some false)
                       (cond r3.2
                        (cond (!(r7.2 == (decide (r5.1 > 0))))
                         (some false)
                         (cond (!(r9.2 == r7.2))
                          (some false)
                          (cond (!(r11.2 == r3.2))
                           (some false)
                           (cond (!(r13.2 == r3.2))
                            (some false)
                            (cond (!(r15.2 == r3.2))
                             (some false)
                             (cond r3.2
                              (cond (!(r17.2 == (decide ((r2.2.2.2.length : Int) > 0))))
                               (some false)
                               (cond (!(r19.2 == r3.2))
                                (some false)
                                (cond r3.2
                                 ((impl_CountBoards k (r2.1, r2.2.1, r2.2.2.1)).bind fun r27 =>
                                  cond (!r27.2)
                                  (some false)
                                  (cond ((r3.1.length : Int) != r5.1)
                                   (some false)
                                   (cond r7.2
                                    (cond (inB 0 r3.1.length)
                                     (cond (!(strEq r7.1 (r3.1.getD 0 default)))
                                      (some false)
                                      (cond (!(r11.1 == (r5.1 == 1)))
                                       (some false)
                                       (cond ((r15.1.length : Int) != (w64 ((r2.2.2.2.length : Int) + 1)))
                                        (some false)
                                        (cond (inB 0 r15.1.length)
                                         (cond ((r15.1.getD 0 default) != r27.1)
                                          (some false)
                                          (cond (inB (r2.2.2.2.length : Int) r15.1.length)
                                           (cond ((r15.1.getD ((r2.2.2.2.length : Int).toNat) default) != r5.1)
                                            (some false)
                                            (cond r11.1
                                             (cond (!(strEq r9.1 r7.1))
                                              (some false)
                                              (cond r7.2
                                               (cond ((r9.1.size : Int) != (w64 (r2.2.1 * r2.2.2.1)))
                                                (some false)
                                                ((laws_FnBoardsGuessed_l k (more, r2, r3.1, r5.1, r9.1, r13.1, r15.1, r17.1, r19.1, (w64 (r2.2.1 * r2.2.2.1)), (), (r3.1.length : Int), 0)).bind fun r28 =>
                                                 r28.elim
                                                 (fun r29 => some r29)
                                                 (fun r30 => (laws_FnBoardsGuessed_l_2 k (r30.1, r30.2.1, r30.2.2.1, r30.2.2.2.1, r30.2.2.2.2.1, r30.2.2.2.2.2.1, r30.2.2.2.2.2.2, (r30.2.1.2.2.2.length : Int), 0)).bind fun r31 =>
                                                  r31.elim
                                                  (fun r32 => some r32)
                                                  (fun r33 => (impl_ParsePuzzle k r33.2.2).bind fun r34 =>
                                                   cond (!r34.2)
                                                   (some false)
                                                   ((laws_dPuzzle k (r34.1, r33.2.1)).bind fun r35 =>
                                                    cond (!r35)
                                                    (some false)
                                                    ((spec_DrawParsePuzzle k r33.1).bind fun r36 =>
                                                     (impl_ParsePuzzle k r36).bind fun r37 =>
                                                     (spec_ParsePuzzle k r36).bind fun r38 =>
                                                     cond (!(r37.2 == r38.2))
                                                     (some false)
                                                     ((laws_dPuzzle k (r37.1, r38.1)).bind fun r39 =>
                                                      cond (!r39)
                                                      (some false)
                                                      (cond r37.2
                                                       ((impl_PuzzleText k r37.1).bind fun r40 =>
                                                        cond r40.2
                                                        (some (strEq r40.1 r36))
                                                        (some false))
                                                       (some true)))))))))
                                               ((laws_FnBoardsGuessed_l k (more, r2, r3.1, r5.1, r9.1, r13.1, r15.1, r17.1, r19.1, (w64 (r2.2.1 * r2.2.2.1)), (), (r3.1.length : Int), 0)).bind fun r41 =>
                                                r41.elim
                                                (fun r42 => some r42)
                                                (fun r43 => (laws_FnBoardsGuessed_l_2 k (r43.1, r43.2.1, r43.2.2.1, r43.2.2.2.1, r43.2.2.2.2.1, r43.2.2.2.2.2.1, r43.2.2.2.2.2.2, (r43.2.1.2.2.2.length : Int), 0)).bind fun r44 =>
                                                 r44.elim
                                                 (fun r45 => some r45)
                                                 (fun r46 => (impl_ParsePuzzle k r46.2.2).bind fun r47 =>
                                                  cond (!r47.2)
                                                  (some false)
                                                  ((laws_dPuzzle k (r47.1, r46.2.1)).bind fun r48 =>
                                                   cond (!r48)
                                                   (some false)
                                                   ((spec_DrawParsePuzzle k r46.1).bind fun r49 =>
                                                    (impl_ParsePuzzle k r49).bind fun r50 =>
                                                    (spec_ParsePuzzle k r49).bind fun r51 =>
                                                    cond (!(r50.2 == r51.2))
                                                    (some false)
                                                    ((laws_dPuzzle k (r50.1, r51.1)).bind fun r52 =>
                                                     cond (!r52)
                                                     (some false)
                                                     (cond r50.2
                                                      ((impl_PuzzleText k r50.1).bind fun r53 =>
                                                       cond r53.2
                                                       (some (strEq r53.1 r49))
                                                       (some false))
                                                      (some true))))))))))
                                             (cond r7.2
                                              (cond ((r9.1.size : Int) != (w64 (r2.2.1 * r2.2.2.1)))
                                               (some false)
                                               ((laws_FnBoardsGuessed_l k (more, r2, r3.1, r5.1, r9.1, r13.1, r15.1, r17.1, r19.1, (w64 (r2.2.1 * r2.2.2.1)), (), (r3.1.length : Int), 0)).bind fun r54 =>
                                                r54.elim
                                                (fun r55 => some r55)
                                                (fun r56 => (laws_FnBoardsGuessed_l_2 k (r56.1, r56.2.1, r56.2.2.1, r56.2.2.2.1, r56.2.2.2.2.1, r56.2.2.2.2.2.1, r56.2.2.2.2.2.2, (r56.2.1.2.2.2.length : Int), 0)).bind fun r57 =>
                                                 r57.elim
                                                 (fun r58 => some r58)
                                                 (fun r59 => (impl_ParsePuzzle k r59.2.2).bind fun r60 =>
                                                  cond (!r60.2)
                                                  (some false)
                                                  ((laws_dPuzzle k (r60.1, r59.2.1)).bind fun r61 =>
                                                   cond (!r61)
                                                   (some false)
                                                   ((spec_DrawParsePuzzle k r59.1).bind fun r62 =>
                                                    (impl_ParsePuzzle k r62).bind fun r63 =>
                                                    (spec_ParsePuzzle k r62).bind fun r64 =>
                                                    cond (!(r63.2 == r64.2))
                                                    (some false)
                                                    ((laws_dPuzzle k (r63.1, r64.1)).bind fun r65 =>
                                                     cond (!r65)
                                                     (some false)
                                                     (cond r63.2
                                                      ((impl_PuzzleText k r63.1).bind fun r66 =>
                                                       cond r66.2
                                                       (some (strEq r66.1 r62))
                                                       (some false))
                                                      (some true)))))))))
                                              ((laws_FnBoardsGuessed_l k (more, r2, r3.1, r5.1, r9.1, r13.1, r15.1, r17.1, r19.1, (w64 (r2.2.1 * r2.2.2.1)), (), (r3.1.length : Int), 0)).bind fun r67 =>
                                               r67.elim
                                               (fun r68 => some r68)
                                               (fun r69 => (laws_FnBoardsGuessed_l_2 k (r69.1, r69.2.1, r69.2.2.1, r69.2.2.2.1, r69.2.2.2.2.1, r69.2.2.2.2.2.1, r69.2.2.2.2.2.2, (r69.2.1.2.2.2.length : Int), 0)).bind fun r70 =>
                                                r70.elim
                                                (fun r71 => some r71)
                                                (fun r72 => (impl_ParsePuzzle k r72.2.2).bind fun r73 =>
                                                 cond (!r73.2)
                                                 (some false)
                                                 ((laws_dPuzzle k (r73.1, r72.2.1)).bind fun r74 =>
                                                  cond (!r74)
                                                  (some false)
                                                  ((spec_DrawParsePuzzle k r72.1).bind fun r75 =>
                                                   (impl_ParsePuzzle k r75).bind fun r76 =>
                                                   (spec_ParsePuzzle k r75).bind fun r77 =>
                                                   cond (!(r76.2 == r77.2))
                                                   (some false)
                                                   ((laws_dPuzzle k (r76.1, r77.1)).bind fun r78 =>
                                                    cond (!r78)
                                                    (some false)
                                                    (cond r76.2
                                                     ((impl_PuzzleText k r76.1).bind fun r79 =>
                                                      cond r79.2
                                                      (some (strEq r79.1 r75))
                                                      (some false))
                                                     (some true)))))))))))
                                           (none)))
                                         (none)))))
                                     (none))
                                    (cond (!(r11.1 == (r5.1 == 1)))
                                     (some false)
                                     (cond ((r15.1.length : Int) != (w64 ((r2.2.2.2.length : Int) + 1)))
                                      (some false)
                                      (cond (inB 0 r15.1.length)
                                       (cond ((r15.1.getD 0 default) != r27.1)
                                        (some false)
                                        (cond (inB (r2.2.2.2.length : Int) r15.1.length)
                                         (cond ((r15.1.getD ((r2.2.2.2.length : Int).toNat) default) != r5.1)
                                          (some false)
                                          (cond r11.1
                                           (cond (!(strEq r9.1 r7.1))
                                            (some false)
                                            (cond r7.2
                                             (cond ((r9.1.size : Int) != (w64 (r2.2.1 * r2.2.2.1)))
                                              (some false)
                                              ((laws_FnBoardsGuessed_l k (more, r2, r3.1, r5.1, r9.1, r13.1, r15.1, r17.1, r19.1, (w64 (r2.2.1 * r2.2.2.1)), (), (r3.1.length : Int), 0)).bind fun r80 =>
                                               r80.elim
                                               (fun r81 => some r81)
                                               (fun r82 => (laws_FnBoardsGuessed_l_2 k (r82.1, r82.2.1, r82.2.2.1, r82.2.2.2.1, r82.2.2.2.2.1, r82.2.2.2.2.2.1, r82.2.2.2.2.2.2, (r82.2.1.2.2.2.length : Int), 0)).bind fun r83 =>
                                                r83.elim
                                                (fun r84 => some r84)
                                                (fun r85 => (impl_ParsePuzzle k r85.2.2).bind fun r86 =>
                                                 cond (!r86.2)
                                                 (some false)
                                                 ((laws_dPuzzle k (r86.1, r85.2.1)).bind fun r87 =>
                                                  cond (!r87)
                                                  (some false)
                                                  ((spec_DrawParsePuzzle k r85.1).bind fun r88 =>
                                                   (impl_ParsePuzzle k r88).bind fun r89 =>
                                                   (spec_ParsePuzzle k r88).bind fun r90 =>
                                                   cond (!(r89.2 == r90.2))
                                                   (some false)
                                                   ((laws_dPuzzle k (r89.1, r90.1)).bind fun r91 =>
                                                    cond (!r91)
                                                    (some false)
                                                    (cond r89.2
                                                     ((impl_PuzzleText k r89.1).bind fun r92 =>
                                                      cond r92.2
                                                      (some (strEq r92.1 r88))
                                                      (some false))
                                                     (some true)))))))))
                                             ((laws_FnBoardsGuessed_l k (more, r2, r3.1, r5.1, r9.1, r13.1, r15.1, r17.1, r19.1, (w64 (r2.2.1 * r2.2.2.1)), (), (r3.1.length : Int), 0)).bind fun r93 =>
                                              r93.elim
                                              (fun r94 => some r94)
                                              (fun r95 => (laws_FnBoardsGuessed_l_2 k (r95.1, r95.2.1, r95.2.2.1, r95.2.2.2.1, r95.2.2.2.2.1, r95.2.2.2.2.2.1, r95.2.2.2.2.2.2, (r95.2.1.2.2.2.length : Int), 0)).bind fun r96 =>
                                               r96.elim
                                               (fun r97 => some r97)
                                               (fun r98 => (impl_ParsePuzzle k r98.2.2).bind fun r99 =>
                                                cond (!r99.2)
                                                (some false)
                                                ((laws_dPuzzle k (r99.1, r98.2.1)).bind fun r100 =>
                                                 cond (!r100)
                                                 (some false)
                                                 ((spec_DrawParsePuzzle k r98.1).bind fun r101 =>
                                                  (impl_ParsePuzzle k r101).bind fun r102 =>
                                                  (spec_ParsePuzzle k r101).bind fun r103 =>
                                                  cond (!(r102.2 == r103.2))
                                                  (some false)
                                                  ((laws_dPuzzle k (r102.1, r103.1)).bind fun r104 =>
                                                   cond (!r104)
                                                   (some false)
                                                   (cond r102.2
                                                    ((impl_PuzzleText k r102.1).bind fun r105 =>
                                                     cond r105.2
                                                     (some (strEq r105.1 r101))
                                                     (some false))
                                                    (some true))))))))))
                                           (cond r7.2
                                            (cond ((r9.1.size : Int) != (w64 (r2.2.1 * r2.2.2.1)))
                                             (some false)
                                             ((laws_FnBoardsGuessed_l k (more, r2, r3.1, r5.1, r9.1, r13.1, r15.1, r17.1, r19.1, (w64 (r2.2.1 * r2.2.2.1)), (), (r3.1.length : Int), 0)).bind fun r106 =>
                                              r106.elim
                                              (fun r107 => some r107)
                                              (fun r108 => (laws_FnBoardsGuessed_l_2 k (r108.1, r108.2.1, r108.2.2.1, r108.2.2.2.1, r108.2.2.2.2.1, r108.2.2.2.2.2.1, r108.2.2.2.2.2.2, (r108.2.1.2.2.2.length : Int), 0)).bind fun r109 =>
                                               r109.elim
                                               (fun r110 => some r110)
                                               (fun r111 => (impl_ParsePuzzle k r111.2.2).bind fun r112 =>
                                                cond (!r112.2)
                                                (some false)
                                                ((laws_dPuzzle k (r112.1, r111.2.1)).bind fun r113 =>
                                                 cond (!r113)
                                                 (some false)
                                                 ((spec_DrawParsePuzzle k r111.1).bind fun r114 =>
                                                  (impl_ParsePuzzle k r114).bind fun r115 =>
                                                  (spec_ParsePuzzle k r114).bind fun r116 =>
                                                  cond (!(r115.2 == r116.2))
                                                  (some false)
                                                  ((laws_dPuzzle k (r115.1, r116.1)).bind fun r117 =>
                                                   cond (!r117)
                                                   (some false)
                                                   (cond r115.2
                                                    ((impl_PuzzleText k r115.1).bind fun r118 =>
                                                     cond r118.2
                                                     (some (strEq r118.1 r114))
                                                     (some false))
                                                    (some true)))))))))
                                            ((laws_FnBoardsGuessed_l k (more, r2, r3.1, r5.1, r9.1, r13.1, r15.1, r17.1, r19.1, (w64 (r2.2.1 * r2.2.2.1)), (), (r3.1.length : Int), 0)).bind fun r119 =>
                                             r119.elim
                                             (fun r120 => some r120)
                                             (fun r121 => (laws_FnBoardsGuessed_l_2 k (r121.1, r121.2.1, r121.2.2.1, r121.2.2.2.1, r121.2.2.2.2.1, r121.2.2.2.2.2.1, r121.2.2.2.2.2.2, (r121.2.1.2.2.2.length : Int), 0)).bind fun r122 =>
                                              r122.elim
                                              (fun r123 => some r123)
                                              (fun r124 => (impl_ParsePuzzle k r124.2.2).bind fun r125 =>
                                               cond (!r125.2)
                                               (some false)
                                               ((laws_dPuzzle k (r125.1, r124.2.1)).bind fun r126 =>
                                                cond (!r126)
                                                (some false)
                                                ((spec_DrawParsePuzzle k r124.1).bind fun r127 =>
                                                 (impl_ParsePuzzle k r127).bind fun r128 =>
                                                 (spec_ParsePuzzle k r127).bind fun r129 =>
                                                 cond (!(r128.2 == r129.2))
                                                 (some false)
                                                 ((laws_dPuzzle k (r128.1, r129.1)).bind fun r130 =>
                                                  cond (!r130)
                                                  (some false)
                                                  (cond r128.2
                                                   ((impl_PuzzleText k r128.1).bind fun r131 =>
                                                    cond r131.2
                                                    (some (strEq r131.1 r127))
                                                    (some false))
                                                   (some true)))))))))))
                                         (none)))
                                       (none)))))))
                                 ((spec_DrawParsePuzzle k more).bind fun r132 =>
                                  (impl_ParsePuzzle k r132).bind fun r133 =>
                                  (spec_ParsePuzzle k r132).bind fun r134 =>
                                  cond (!(r133.2 == r134.2))
                                  (some false)
                                  ((laws_dPuzzle k (r133.1, r134.1)).bind fun r135 =>
                                   cond (!r135)
                                   (some false)
                                   (cond r133.2
                                    ((impl_PuzzleText k r133.1).bind fun r136 =>
                                     cond r136.2
                                     (some (strEq r136.1 r132))
                                     (some false))
                                    (some true)))))))
                              (cond (!(r17.2 == false))
                               (some false)
                               (cond (!(r19.2 == r3.2))
                                (some false)
                                (cond r3.2
                                 ((impl_CountBoards k (r2.1, r2.2.1, r2.2.2.1)).bind fun r137 =>
                                  cond (!r137.2)
                                  (some false)
                                  (cond ((r3.1.length : Int) != r5.1)
                                   (some false)
                                   (cond r7.2
                                    (cond (inB 0 r3.1.length)
                                     (cond (!(strEq r7.1 (r3.1.getD 0 default)))
                                      (some false)
                                      (cond (!(r11.1 == (r5.1 == 1)))
                                       (some false)
                                       (cond ((r15.1.length : Int) != (w64 ((r2.2.2.2.length : Int) + 1)))
                                        (some false)
                                        (cond (inB 0 r15.1.length)
                                         (cond ((r15.1.getD 0 default) != r137.1)
                                          (some false)
                                          (cond (inB (r2.2.2.2.length : Int) r15.1.length)
                                           (cond ((r15.1.getD ((r2.2.2.2.length : Int).toNat) default) != r5.1)
                                            (some false)
                                            (cond r11.1
                                             (cond (!(strEq r9.1 r7.1))
                                              (some false)
                                              (cond r7.2
                                               (cond ((r9.1.size : Int) != (w64 (r2.2.1 * r2.2.2.1)))
                                                (some false)
                                                ((laws_FnBoardsGuessed_l k (more, r2, r3.1, r5.1, r9.1, r13.1, r15.1, r17.1, r19.1, (w64 (r2.2.1 * r2.2.2.1)), (), (r3.1.length : Int), 0)).bind fun r138 =>
                                                 r138.elim
                                                 (fun r139 => some r139)
                                                 (fun r140 => (laws_FnBoardsGuessed_l_2 k (r140.1, r140.2.1, r140.2.2.1, r140.2.2.2.1, r140.2.2.2.2.1, r140.2.2.2.2.2.1, r140.2.2.2.2.2.2, (r140.2.1.2.2.2.length : Int), 0)).bind fun r141 =>
                                                  r141.elim
                                                  (fun r142 => some r142)
                                                  (fun r143 => (impl_ParsePuzzle k r143.2.2).bind fun r144 =>
                                                   cond (!r144.2)
                                                   (some false)
                                                   ((laws_dPuzzle k (r144.1, r143.2.1)).bind fun r145 =>
                                                    cond (!r145)
                                                    (some false)
                                                    ((spec_DrawParsePuzzle k r143.1).bind fun r146 =>
                                                     (impl_ParsePuzzle k r146).bind fun r147 =>
                                                     (spec_ParsePuzzle k r146).bind fun r148 =>
                                                     cond (!(r147.2 == r148.2))
                                                     (some false)
                                                     ((laws_dPuzzle k (r147.1, r148.1)).bind fun r149 =>
                                                      cond (!r149)
                                                      (some false)
                                                      (cond r147.2
                                                       ((impl_PuzzleText k r147.1).bind fun r150 =>
                                                        cond r150.2
                                                        (some (strEq r150.1 r146))
                                                        (some false))
                                                       (some true)))))))))
                                               ((laws_FnBoardsGuessed_l k (more, r2, r3.1, r5.1, r9.1, r13.1, r15.1, r17.1, r19.1, (w64 (r2.2.1 * r2.2.2.1)), (), (r3.1.length : Int), 0)).bind fun r151 =>
                                                r151.elim
                                                (fun r152 => some r152)
                                                (fun r153 => (laws_FnBoardsGuessed_l_2 k (r153.1, r153.2.1, r153.2.2.1, r153.2.2.2.1, r153.2.2.2.2.1, r153.2.2.2.2.2.1, r153.2.2.2.2.2.2, (r153.2.1.2.2.2.length : Int), 0)).bind fun r154 =>
                                                 r154.elim
                                                 (fun r155 => some r155)
                                                 (fun r156 => (impl_ParsePuzzle k r156.2.2).bind fun r157 =>
                                                  cond (!r157.2)
                                                  (some false)
                                                  ((laws_dPuzzle k (r157.1, r156.2.1)).bind fun r158 =>
                                                   cond (!r158)
                                                   (some false)
                                                   ((spec_DrawParsePuzzle k r156.1).bind fun r159 =>
                                                    (impl_ParsePuzzle k r159).bind fun r160 =>
                                                    (spec_ParsePuzzle k r159).bind fun r161 =>
                                                    cond (!(r160.2 == r161.2))
                                                    (some false)
                                                    ((laws_dPuzzle k (r160.1, r161.1)).bind fun r162 =>
                                                     cond (!r162)
                                                     (some false)
                                                     (cond r160.2
                                                      ((impl_PuzzleText k r160.1).bind fun r163 =>
                                                       cond r163.2
                                                       (some (strEq r163.1 r159))
                                                       (some false))
                                                      (some true))))))))))
                                             (cond r7.2
                                              (cond ((r9.1.size : Int) != (w64 (r2.2.1 * r2.2.2.1)))
                                               (some false)
                                               ((laws_FnBoardsGuessed_l k (more, r2, r3.1, r5.1, r9.1, r13.1, r15.1, r17.1, r19.1, (w64 (r2.2.1 * r2.2.2.1)), (), (r3.1.length : Int), 0)).bind fun r164 =>
                                                r164.elim
                                                (fun r165 => some r165)
                                                (fun r166 => (laws_FnBoardsGuessed_l_2 k (r166.1, r166.2.1, r166.2.2.1, r166.2.2.2.1, r166.2.2.2.2.1, r166.2.2.2.2.2.1, r166.2.2.2.2.2.2, (r166.2.1.2.2.2.length : Int), 0)).bind fun r167 =>
                                                 r167.elim
                                                 (fun r168 => some r168)
                                                 (fun r169 => (impl_ParsePuzzle k r169.2.2).bind fun r170 =>
                                                  cond (!r170.2)
                                                  (some false)
                                                  ((laws_dPuzzle k (r170.1, r169.2.1)).bind fun r171 =>
                                                   cond (!r171)
                                                   (some false)
                                                   ((spec_DrawParsePuzzle k r169.1).bind fun r172 =>
                                                    (impl_ParsePuzzle k r172).bind fun r173 =>
                                                    (spec_ParsePuzzle k r172).bind fun r174 =>
                                                    cond (!(r173.2 == r174.2))
                                                    (some false)
                                                    ((laws_dPuzzle k (r173.1, r174.1)).bind fun r175 =>
                                                     cond (!r175)
                                                     (some false)
                                                     (cond r173.2
                                                      ((impl_PuzzleText k r173.1).bind fun r176 =>
                                                       cond r176.2
                                                       (some (strEq r176.1 r172))
                                                       (some false))
                                                      (some true)))))))))
                                              ((laws_FnBoardsGuessed_l k (more, r2, r3.1, r5.1, r9.1, r13.1, r15.1, r17.1, r19.1, (w64 (r2.2.1 * r2.2.2.1)), (), (r3.1.length : Int), 0)).bind fun r177 =>
                                               r177.elim
                                               (fun r178 => some r178)
                                               (fun r179 => (laws_FnBoardsGuessed_l_2 k (r179.1, r179.2.1, r179.2.2.1, r179.2.2.2.1, r179.2.2.2.2.1, r179.2.2.2.2.2.1, r179.2.2.2.2.2.2, (r179.2.1.2.2.2.length : Int), 0)).bind fun r180 =>
                                                r180.elim
                                                (fun r181 => some r181)
                                                (fun r182 => (impl_ParsePuzzle k r182.2.2).bind fun r183 =>
                                                 cond (!r183.2)
                                                 (some false)
                                                 ((laws_dPuzzle k (r183.1, r182.2.1)).bind fun r184 =>
                                                  cond (!r184)
                                                  (some false)
                                                  ((spec_DrawParsePuzzle k r182.1).bind fun r185 =>
                                                   (impl_ParsePuzzle k r185).bind fun r186 =>
                                                   (spec_ParsePuzzle k r185).bind fun r187 =>
                                                   cond (!(r186.2 == r187.2))
                                                   (some false)
                                                   ((laws_dPuzzle k (r186.1, r187.1)).bind fun r188 =>
                                                    cond (!r188)
                                                    (some false)
                                                    (cond r186.2
                                                     ((impl_PuzzleText k r186.1).bind fun r189 =>
                                                      cond r189.2
                                                      (some (strEq r189.1 r185))
                                                      (some false))
                                                     (some true)))))))))))
                                           (none)))
                                         (none)))))
                                     (none))
                                    (cond (!(r11.1 == (r5.1 == 1)))
                                     (some false)
                                     (cond ((r15.1.length : Int) != (w64 ((r2.2.2.2.length : Int) + 1)))
                                      (some false)
                                      (cond (inB 0 r15.1.length)
                                       (cond ((r15.1.getD 0 default) != r137.1)
                                        (some false)
                                        (cond (inB (r2.2.2.2.length : Int) r15.1.length)
                                         (cond ((r15.1.getD ((r2.2.2.2.length : Int).toNat) default) != r5.1)
                                          (some false)
                                          (cond r11.1
                                           (cond (!(strEq r9.1 r7.1))
                                            (some false)
                                            (cond r7.2
                                             (cond ((r9.1.size : Int) != (w64 (r2.2.1 * r2.2.2.1)))
                                              (some false)
                                              ((laws_FnBoardsGuessed_l k (more, r2, r3.1, r5.1, r9.1, r13.1, r15.1, r17.1, r19.1, (w64 (r2.2.1 * r2.2.2.1)), (), (r3.1.length : Int), 0)).bind fun r190 =>
                                               r190.elim
                                               (fun r191 => some r191)
                                               (fun r192 => (laws_FnBoardsGuessed_l_2 k (r192.1, r192.2.1, r192.2.2.1, r192.2.2.2.1, r192.2.2.2.2.1, r192.2.2.2.2.2.1, r192.2.2.2.2.2.2, (r192.2.1.2.2.2.length : Int), 0)).bind fun r193 =>
                                                r193.elim
                                                (fun r194 => some r194)
                                                (fun r195 => (impl_ParsePuzzle k r195.2.2).bind fun r196 =>
                                                 cond (!r196.2)
                                                 (some false)
                                                 ((laws_dPuzzle k (r196.1, r195.2.1)).bind fun r197 =>
                                                  cond (!r197)
                                                  (some false)
                                                  ((spec_DrawParsePuzzle k r195.1).bind fun r198 =>
                                                   (impl_ParsePuzzle k r198).bind fun r199 =>
                                                   (spec_ParsePuzzle k r198).bind fun r200 =>
                                                   cond (!(r199.2 == r200.2))
                                                   (some false)
                                                   ((laws_dPuzzle k (r199.1, r200.1)).bind fun r201 =>
                                                    cond (!r201)
                                                    (some false)
                                                    (cond r199.2
                                                     ((impl_PuzzleText k r199.1).bind fun r202 =>
                                                      cond r202.2
                                                      (some (strEq r202.1 r198))
                                                      (some false))
                                                     (some true)))))))))
                                             ((laws_FnBoardsGuessed_l k (more, r2, r3.1, r5.1, r9.1, r13.1, r15.1, r17.1, r19.1, (w64 (r2.2.1 * r2.2.2.1)), (), (r3.1.length : Int), 0)).bind fun r203 =>
                                              r203.elim
                                              (fun r204 => some r204)
                                              (fun r205 => (laws_FnBoardsGuessed_l_2 k (r205.1, r205.2.1, r205.2.2.1, r205.2.2.2.1, r205.2.2.2.2.1, r205.2.2.2.2.2.1, r205.2.2.2.2.2.2, (r205.2.1.2.2.2.length : Int), 0)).bind fun r206 =>
                                               r206.elim
                                               (fun r207 => some r207)
                                               (fun r208 => (impl_ParsePuzzle k r208.2.2).bind fun r209 =>
                                                cond (!r209.2)
                                                (some false)
                                                ((laws_dPuzzle k (r209.1, r208.2.1)).bind fun r210 =>
                                                 cond (!r210)
                                                 (some false)
                                                 ((spec_DrawParsePuzzle k r208.1).bind fun r211 =>
                                                  (impl_ParsePuzzle k r211).bind fun r212 =>
                                                  (spec_ParsePuzzle k r211).bind fun r213 =>
                                                  cond (!(r212.2 == r213.2))
                                                  (some false)
                                                  ((laws_dPuzzle k (r212.1, r213.1)).bind fun r214 =>
                                                   cond (!r214)
                                                   (some false)
                                                   (cond r212.2
                                                    ((impl_PuzzleText k r212.1).bind fun r215 =>
                                                     cond r215.2
                                                     (some (strEq r215.1 r211))
                                                     (some false))
                                                    (some true))))))))))
                                           (cond r7.2
                                            (cond ((r9.1.size : Int) != (w64 (r2.2.1 * r2.2.2.1)))
                                             (some false)
                                             ((laws_FnBoardsGuessed_l k (more, r2, r3.1, r5.1, r9.1, r13.1, r15.1, r17.1, r19.1, (w64 (r2.2.1 * r2.2.2.1)), (), (r3.1.length : Int), 0)).bind fun r216 =>
                                              r216.elim
                                              (fun r217 => some r217)
                                              (fun r218 => (laws_FnBoardsGuessed_l_2 k (r218.1, r218.2.1, r218.2.2.1, r218.2.2.2.1, r218.2.2.2.2.1, r218.2.2.2.2.2.1, r218.2.2.2.2.2.2, (r218.2.1.2.2.2.length : Int), 0)).bind fun r219 =>
                                               r219.elim
                                               (fun r220 => some r220)
                                               (fun r221 => (impl_ParsePuzzle k r221.2.2).bind fun r222 =>
                                                cond (!r222.2)
                                                (some false)
                                                ((laws_dPuzzle k (r222.1, r221.2.1)).bind fun r223 =>
                                                 cond (!r223)
                                                 (some false)
                                                 ((spec_DrawParsePuzzle k r221.1).bind fun r224 =>
                                                  (impl_ParsePuzzle k r224).bind fun r225 =>
                                                  (spec_ParsePuzzle k r224).bind fun r226 =>
                                                  cond (!(r225.2 == r226.2))
                                                  (some false)
                                                  ((laws_dPuzzle k (r225.1, r226.1)).bind fun r227 =>
                                                   cond (!r227)
                                                   (some false)
                                                   (cond r225.2
                                                    ((impl_PuzzleText k r225.1).bind fun r228 =>
                                                     cond r228.2
                                                     (some (strEq r228.1 r224))
                                                     (some false))
                                                    (some true)))))))))
                                            ((laws_FnBoardsGuessed_l k (more, r2, r3.1, r5.1, r9.1, r13.1, r15.1, r17.1, r19.1, (w64 (r2.2.1 * r2.2.2.1)), (), (r3.1.length : Int), 0)).bind fun r229 =>
                                             r229.elim
                                             (fun r230 => some r230)
                                             (fun r231 => (laws_FnBoardsGuessed_l_2 k (r231.1, r231.2.1, r231.2.2.1, r231.2.2.2.1, r231.2.2.2.2.1, r231.2.2.2.2.2.1, r231.2.2.2.2.2.2, (r231.2.1.2.2.2.length : Int), 0)).bind fun r232 =>
                                              r232.elim
                                              (fun r233 => some r233)
                                              (fun r234 => (impl_ParsePuzzle k r234.2.2).bind fun r235 =>
                                               cond (!r235.2)
                                               (some false)
                                               ((laws_dPuzzle k (r235.1, r234.2.1)).bind fun r236 =>
                                                cond (!r236)
                                                (some false)
                                                ((spec_DrawParsePuzzle k r234.1).bind fun r237 =>
                                                 (impl_ParsePuzzle k r237).bind fun r238 =>
                                                 (spec_ParsePuzzle k r237).bind fun r239 =>
                                                 cond (!(r238.2 == r239.2))
                                                 (some false)
                                                 ((laws_dPuzzle k (r238.1, r239.1)).bind fun r240 =>
                                                  cond (!r240)
                                                  (some false)
                                                  (cond r238.2
                                                   ((impl_PuzzleText k r238.1).bind fun r241 =>
                                                    cond r241.2
                                                    (some (strEq r241.1 r237))
                                                    (some false))
                                                   (some true)))))))))))
                                         (none)))
                                       (none)))))))
                                 ((spec_DrawParsePuzzle k more).bind fun r242 =>
                                  (impl_ParsePuzzle k r242).bind fun r243 =>
                                  (spec_ParsePuzzle k r242).bind fun r244 =>
                                  cond (!(r243.2 == r244.2))
                                  (some false)
                                  ((laws_dPuzzle k (r243.1, r244.1)).bind fun r245 =>
                                   cond (!r245)
                                   (some false)
                                   (cond r243.2
                                    ((impl_PuzzleText k r243.1).bind fun r246 =>
                                     cond r246.2
                                     (some (strEq r246.1 r242))
                                     (some false))
                                    (some true)))))))))))))
                        (cond (!(r7.2 == false))
                         (some false)
                         (cond (!(r9.2 == r7.2))
                          (some false)
                          (cond (!(r11.2 == r3.2))
                           (some false)
                           (cond (!(r13.2 == r3.2))
                            (some false)
                            (cond (!(r15.2 == r3.2))
                             (some false)
                             (cond r3.2
                              (cond (!(r17.2 == (decide ((r2.2.2.2.length : Int) > 0))))
                               (some false)
                               (cond (!(r19.2 == r3.2))
                                (some false)
                                (cond r3.2
                                 ((impl_CountBoards k (r2.1, r2.2.1, r2.2.2.1)).bind fun r247 =>
                                  cond (!r247.2)
                                  (some false)
                                  (cond ((r3.1.length : Int) != r5.1)
                                   (some false)
                                   (cond r7.2
                                    (cond (inB 0 r3.1.length)
                                     (cond (!(strEq r7.1 (r3.1.getD 0 default)))
                                      (some false)
                                      (cond (!(r11.1 == (r5.1 == 1)))
                                       (some false)
                                       (cond ((r15.1.length : Int) != (w64 ((r2.2.2.2.length : Int) + 1)))
                                        (some false)
                                        (cond (inB 0 r15.1.length)
                                         (cond ((r15.1.getD 0 default) != r247.1)
                                          (some false)
                                          (cond (inB (r2.2.2.2.length : Int) r15.1.length)
                                           (cond ((r15.1.getD ((r2.2.2.2.length : Int).toNat) default) != r5.1)
                                            (some false)
                                            (cond r11.1
                                             (cond (!(strEq r9.1 r7.1))
                                              (some false)
                                              (cond r7.2
                                               (cond ((r9.1.size : Int) != (w64 (r2.2.1 * r2.2.2.1)))
                                                (some false)
                                                ((laws_FnBoardsGuessed_l k (more, r2, r3.1, r5.1, r9.1, r13.1, r15.1, r17.1, r19.1, (w64 (r2.2.1 * r2.2.2.1)), (), (r3.1.length : Int), 0)).bind fun r248 =>
                                                 r248.elim
                                                 (fun r249 => some r249)
                                                 (fun r250 => (laws_FnBoardsGuessed_l_2 k (r250.1, r250.2.1, r250.2.2.1, r250.2.2.2.1, r250.2.2.2.2.1, r250.2.2.2.2.2.1, r250.2.2.2.2.2.2, (r250.2.1.2.2.2.length : Int), 0)).bind fun r251 =>
                                                  r251.elim
                                                  (fun r252 => some r252)
                                                  (fun r253 => (impl_ParsePuzzle k r253.2.2).bind fun r254 =>
                                                   cond (!r254.2)
                                                   (some false)
                                                   ((laws_dPuzzle k (r254.1, r253.2.1)).bind fun r255 =>
                                                    cond (!r255)
                                                    (some false)
                                                    ((spec_DrawParsePuzzle k r253.1).bind fun r256 =>
                                                     (impl_ParsePuzzle k r256).bind fun r257 =>
                                                     (spec_ParsePuzzle k r256).bind fun r258 =>
                                                     cond (!(r257.2 == r258.2))
                                                     (some false)
                                                     ((laws_dPuzzle k (r257.1, r258.1)).bind fun r259 =>
                                                      cond (!r259)
                                                      (some false)
                                                      (cond r257.2
                                                       ((impl_PuzzleText k r257.1).bind fun r260 =>
                                                        cond r260.2
                                                        (some (strEq r260.1 r256))
                                                        (some false))
                                                       (some true)))))))))
                                               ((laws_FnBoardsGuessed_l k (more, r2, r3.1, r5.1, r9.1, r13.1, r15.1, r17.1, r19.1, (w64 (r2.2.1 * r2.2.2.1)), (), (r3.1.length : Int), 0)).bind fun r261 =>
                                                r261.elim
                                                (fun r262 => some r262)
                                                (fun r263 => (laws_FnBoardsGuessed_l_2 k (r263.1, r263.2.1, r263.2.2.1, r263.2.2.2.1, r263.2.2.2.2.1, r263.2.2.2.2.2.1, r263.2.2.2.2.2.2, (r263.2.1.2.2.2.length : Int), 0)).bind fun r264 =>
                                                 r264.elim
                                                 (fun r265 => some r265)
                                                 (fun r266 => (impl_ParsePuzzle k r266.2.2).bind fun r267 =>
                                                  cond (!r267.2)
                                                  (some false)
                                                  ((laws_dPuzzle k (r267.1, r266.2.1)).bind fun r268 =>
                                                   cond (!r268)
                                                   (some false)
                                                   ((spec_DrawParsePuzzle k r266.1).bind fun r269 =>
                                                    (impl_ParsePuzzle k r269).bind fun r270 =>
                                                    (spec_ParsePuzzle k r269).bind fun r271 =>
                                                    cond (!(r270.2 == r271.2))
                                                    (some false)
                                                    ((laws_dPuzzle k (r270.1, r271.1)).bind fun r272 =>
                                                     cond (!r272)
                                                     (some false)
                                                     (cond r270.2
                                                      ((impl_PuzzleText k r270.1).bind fun r273 =>
                                                       cond r273.2
                                                       (some (strEq r273.1 r269))
                                                       (some false))
                                                      (some true))))))))))
                                             (cond r7.2
                                              (cond ((r9.1.size : Int) != (w64 (r2.2.1 * r2.2.2.1)))
                                               (some false)
                                               ((laws_FnBoardsGuessed_l k (more, r2, r3.1, r5.1, r9.1, r13.1, r15.1, r17.1, r19.1, (w64 (r2.2.1 * r2.2.2.1)), (), (r3.1.length : Int), 0)).bind fun r274 =>
                                                r274.elim
                                                (fun r275 => some r275)
                                                (fun r276 => (laws_FnBoardsGuessed_l_2 k (r276.1, r276.2.1, r276.2.2.1, r276.2.2.2.1, r276.2.2.2.2.1, r276.2.2.2.2.2.1, r276.2.2.2.2.2.2, (r276.2.1.2.2.2.length : Int), 0)).bind fun r277 =>
                                                 r277.elim
                                                 (fun r278 => some r278)
                                                 (fun r279 => (impl_ParsePuzzle k r279.2.2).bind fun r280 =>
                                                  cond (!r280.2)
                                                  (some false)
                                                  ((laws_dPuzzle k (r280.1, r279.2.1)).bind fun r281 =>
                                                   cond (!r281)
                                                   (some false)
                                                   ((spec_DrawParsePuzzle k r279.1).bind fun r282 =>
                                                    (impl_ParsePuzzle k r282).bind fun r283 =>
                                                    (spec_ParsePuzzle k r282).bind fun r284 =>
                                                    cond (!(r283.2 == r284.2))
                                                    (some false)
                                                    ((laws_dPuzzle k (r283.1, r284.1)).bind fun r285 =>
                                                     cond (!r285)
                                                     (some false)
                                                     (cond r283.2
                                                      ((impl_PuzzleText k r283.1).bind fun r286 =>
                                                       cond r286.2
                                                       (some (strEq r286.1 r282))
                                                       (some false))
                                                      (some true)))))))))
                                              ((laws_FnBoardsGuessed_l k (more, r2, r3.1, r5.1, r9.1, r13.1, r15.1, r17.1, r19.1, (w64 (r2.2.1 * r2.2.2.1)), (), (r3.1.length : Int), 0)).bind fun r287 =>
                                               r287.elim
                                               (fun r288 => some r288)
                                               (fun r289 => (laws_FnBoardsGuessed_l_2 k (r289.1, r289.2.1, r289.2.2.1, r289.2.2.2.1, r289.2.2.2.2.1, r289.2.2.2.2.2.1, r289.2.2.2.2.2.2, (r289.2.1.2.2.2.length : Int), 0)).bind fun r290 =>
                                                r290.elim
                                                (fun r291 => some r291)
                                                (fun r292 => (impl_ParsePuzzle k r292.2.2).bind fun r293 =>
                                                 cond (!r293.2)
                                                 (some false)
                                                 ((laws_dPuzzle k (r293.1, r292.2.1)).bind fun r294 =>
                                                  cond (!r294)
                                                  (some false)
                                                  ((spec_DrawParsePuzzle k r292.1).bind fun r295 =>
                                                   (impl_ParsePuzzle k r295).bind fun r296 =>
                                                   (spec_ParsePuzzle k r295).bind fun r297 =>
                                                   cond (!(r296.2 == r297.2))
                                                   (some false)
                                                   ((laws_dPuzzle k (r296.1, r297.1)).bind fun r298 =>
                                                    cond (!r298)
                                                    (some false)
                                                    (cond r296.2
                                                     ((impl_PuzzleText k r296.1).bind fun r299 =>
                                                      cond r299.2
                                                      (some (strEq r299.1 r295))
                                                      (some false))
                                                     (some true)))))))))))
                                           (none)))
                                         (none)))))
                                     (none))
                                    (cond (!(r11.1 == (r5.1 == 1)))
                                     (some false)
                                     (cond ((r15.1.length : Int) != (w64 ((r2.2.2.2.length : Int) + 1)))
                                      (some false)
                                      (cond (inB 0 r15.1.length)
                                       (cond ((r15.1.getD 0 default) != r247.1)
                                        (some false)
                                        (cond (inB (r2.2.2.2.length : Int) r15.1.length)
                                         (cond ((r15.1.getD ((r2.2.2.2.length : Int).toNat) default) != r5.1)
                                          (some false)
                                          (cond r11.1
                                           (cond (!(strEq r9.1 r7.1))
                                            (some false)
                                            (cond r7.2
                                             (cond ((r9.1.size : Int) != (w64 (r2.2.1 * r2.2.2.1)))
                                              (some false)
                                              ((laws_FnBoardsGuessed_l k (more, r2, r3.1, r5.1, r9.1, r13.1, r15.1, r17.1, r19.1, (w64 (r2.2.1 * r2.2.2.1)), (), (r3.1.length : Int), 0)).bind fun r300 =>
                                               r300.elim
                                               (fun r301 => some r301)
                                               (fun r302 => (laws_FnBoardsGuessed_l_2 k (r302.1, r302.2.1, r302.2.2.1, r302.2.2.2.1, r302.2.2.2.2.1, r302.2.2.2.2.2.1, r302.2.2.2.2.2.2, (r302.2.1.2.2.2.length : Int), 0)).bind fun r303 =>
                                                r303.elim
                                                (fun r304 => some r304)
                                                (fun r305 => (impl_ParsePuzzle k r305.2.2).bind fun r306 =>
                                                 cond (!r306.2)
                                                 (some false)
                                                 ((laws_dPuzzle k (r306.1, r305.2.1)).bind fun r307 =>
                                                  cond (!r307)
                                                  (some false)
                                                  ((spec_DrawParsePuzzle k r305.1).bind fun r308 =>
                                                   (impl_ParsePuzzle k r308).bind fun r309 =>
                                                   (spec_ParsePuzzle k r308).bind fun r310 =>
                                                   cond (!(r309.2 == r310.2))
                                                   (some false)
                                                   ((laws_dPuzzle k (r309.1, r310.1)).bind fun r311 =>
                                                    cond (!r311)
                                                    (some false)
                                                    (cond r309.2
                                                     ((impl_PuzzleText k r309.1).bind fun r312 =>
                                                      cond r312.2
                                                      (some (strEq r312.1 r308))
                                                      (some false))
                                                     (some true)))))))))
                                             ((laws_FnBoardsGuessed_l k (more, r2, r3.1, r5.1, r9.1, r13.1, r15.1, r17.1, r19.1, (w64 (r2.2.1 * r2.2.2.1)), (), (r3.1.length : Int), 0)).bind fun r313 =>
                                              r313.elim
                                              (fun r314 => some r314)
                                              (fun r315 => (laws_FnBoardsGuessed_l_2 k (r315.1, r315.2.1, r315.2.2.1, r315.2.2.2.1, r315.2.2.2.2.1, r315.2.2.2.2.2.1, r315.2.2.2.2.2.2, (r315.2.1.2.2.2.length : Int), 0)).bind fun r316 =>
                                               r316.elim
                                               (fun r317 => some r317)
                                               (fun r318 => (impl_ParsePuzzle k r318.2.2).bind fun r319 =>
                                                cond (!r319.2)
                                                (some false)
                                                ((laws_dPuzzle k (r319.1, r318.2.1)).bind fun r320 =>
                                                 cond (!r320)
                                                 (some false)
                                                 ((spec_DrawParsePuzzle k r318.1).bind fun r321 =>
                                                  (impl_ParsePuzzle k r321).bind fun r322 =>
                                                  (spec_ParsePuzzle k r321).bind fun r323 =>
                                                  cond (!(r322.2 == r323.2))
                                                  (some false)
                                                  ((laws_dPuzzle k (r322.1, r323.1)).bind fun r324 =>
                                                   cond (!r324)
                                                   (some false)
                                                   (cond r322.2
                                                    ((impl_PuzzleText k r322.1).bind fun r325 =>
                                                     cond r325.2
                                                     (some (strEq r325.1 r321))
                                                     (some false))
                                                    (some true))))))))))
                                           (cond r7.2
                                            (cond ((r9.1.size : Int) != (w64 (r2.2.1 * r2.2.2.1)))
                                             (some false)
                                             ((laws_FnBoardsGuessed_l k (more, r2, r3.1, r5.1, r9.1, r13.1, r15.1, r17.1, r19.1, (w64 (r2.2.1 * r2.2.2.1)), (), (r3.1.length : Int), 0)).bind fun r326 =>
                                              r326.elim
                                              (fun r327 => some r327)
                                              (fun r328 => (laws_FnBoardsGuessed_l_2 k (r328.1, r328.2.1, r328.2.2.1, r328.2.2.2.1, r328.2.2.2.2.1, r328.2.2.2.2.2.1, r328.2.2.2.2.2.2, (r328.2.1.2.2.2.length : Int), 0)).bind fun r329 =>
                                               r329.elim
                                               (fun r330 => some r330)
                                               (fun r331 => (impl_ParsePuzzle k r331.2.2).bind fun r332 =>
                                                cond (!r332.2)
                                                (some false)
                                                ((laws_dPuzzle k (r332.1, r331.2.1)).bind fun r333 =>
                                                 cond (!r333)
                                                 (some false)
                                                 ((spec_DrawParsePuzzle k r331.1).bind fun r334 =>
                                                  (impl_ParsePuzzle k r334).bind fun r335 =>
                                                  (spec_ParsePuzzle k r334).bind fun r336 =>
                                                  cond (!(r335.2 == r336.2))
                                                  (some false)
                                                  ((laws_dPuzzle k (r335.1, r336.1)).bind fun r337 =>
                                                   cond (!r337)
                                                   (some false)
                                                   (cond r335.2
                                                    ((impl_PuzzleText k r335.1).bind fun r338 =>
                                                     cond r338.2
                                                     (some (strEq r338.1 r334))
                                                     (some false))
                                                    (some true)))))))))
                                            ((laws_FnBoardsGuessed_l k (more, r2, r3.1, r5.1, r9.1, r13.1, r15.1, r17.1, r19.1, (w64 (r2.2.1 * r2.2.2.1)), (), (r3.1.length : Int), 0)).bind fun r339 =>
                                             r339.elim
                                             (fun r340 => some r340)
                                             (fun r341 => (laws_FnBoardsGuessed_l_2 k (r341.1, r341.2.1, r341.2.2.1, r341.2.2.2.1, r341.2.2.2.2.1, r341.2.2.2.2.2.1, r341.2.2.2.2.2.2, (r341.2.1.2.2.2.length : Int), 0)).bind fun r342 =>
                                              r342.elim
                                              (fun r343 => some r343)
                                              (fun r344 => (impl_ParsePuzzle k r344.2.2).bind fun r345 =>
                                               cond (!r345.2)
                                               (some false)
                                               ((laws_dPuzzle k (r345.1, r344.2.1)).bind fun r346 =>
                                                cond (!r346)
                                                (some false)
                                                ((spec_DrawParsePuzzle k r344.1).bind fun r347 =>
                                                 (impl_ParsePuzzle k r347).bind fun r348 =>
                                                 (spec_ParsePuzzle k r347).bind fun r349 =>
                                                 cond (!(r348.2 == r349.2))
                                                 (some false)
                                                 ((laws_dPuzzle k (r348.1, r349.1)).bind fun r350 =>
                                                  cond (!r350)
                                                  (some false)
                                                  (cond r348.2
                                                   ((impl_PuzzleText k r348.1).bind fun r351 =>
                                                    cond r351.2
                                                    (some (strEq r351.1 r347))
                                                    (some false))
                                                   (some true)))))))))))
                                         (none)))
                                       (none)))))))
                                 ((spec_DrawParsePuzzle k more).bind fun r352 =>
                                  (impl_ParsePuzzle k r352).bind fun r353 =>
                                  (spec_ParsePuzzle k r352).bind fun r354 =>
                                  cond (!(r353.2 == r354.2))
                                  (some false)
                                  ((laws_dPuzzle k (r353.1, r354.1)).bind fun r355 =>
                                   cond (!r355)
                                   (some false)
                                   (cond r353.2
                                    ((impl_PuzzleText k r353.1).bind fun r356 =>
                                     cond r356.2
                                     (some (strEq r356.1 r352))
                                     (some false))
                                    (some true)))))))
                              (cond (!(r17.2 == false))
                               (some false)
                               (cond (!(r19.2 == r3.2))
                                (some false)
                                (cond r3.2
                                 ((impl_CountBoards k (r2.1, r2.2.1, r2.2.2.1)).bind fun r357 =>
                                  cond (!r357.2)
                                  (some false)
                                  (cond ((r3.1.length : Int) != r5.1)
                                   (some false)
                                   (cond r7.2
                                    (cond (inB 0 r3.1.length)
                                     (cond (!(strEq r7.1 (r3.1.getD 0 default)))
                                      (some false)
                                      (cond (!(r11.1 == (r5.1 == 1)))
                                       (some false)
                                       (cond ((r15.1.length : Int) != (w64 ((r2.2.2.2.length : Int) + 1)))
                                        (some false)
                                        (cond (inB 0 r15.1.length)
                                         (cond ((r15.1.getD 0 default) != r357.1)
                                          (some false)
                                          (cond (inB (r2.2.2.2.length : Int) r15.1.length)
                                           (cond ((r15.1.getD ((r2.2.2.2.length : Int).toNat) default) != r5.1)
                                            (some false)
                                            (cond r11.1
                                             (cond (!(strEq r9.1 r7.1))
                                              (some false)
                                              (cond r7.2
                                               (cond ((r9.1.size : Int) != (w64 (r2.2.1 * r2.2.2.1)))
                                                (some false)
                                                ((laws_FnBoardsGuessed_l k (more, r2, r3.1, r5.1, r9.1, r13.1, r15.1, r17.1, r19.1, (w64 (r2.2.1 * r2.2.2.1)), (), (r3.1.length : Int), 0)).bind fun r358 =>
                                                 r358.elim
                                                 (fun r359 => some r359)
                                                 (fun r360 => (laws_FnBoardsGuessed_l_2 k (r360.1, r360.2.1, r360.2.2.1, r360.2.2.2.1, r360.2.2.2.2.1, r360.2.2.2.2.2.1, r360.2.2.2.2.2.2, (r360.2.1.2.2.2.length : Int), 0)).bind fun r361 =>
                                                  r361.elim
                                                  (fun r362 => some r362)
                                                  (fun r363 => (impl_ParsePuzzle k r363.2.2).bind fun r364 =>
                                                   cond (!r364.2)
                                                   (some false)
                                                   ((laws_dPuzzle k (r364.1, r363.2.1)).bind fun r365 =>
                                                    cond (!r365)
                                                    (some false)
                                                    ((spec_DrawParsePuzzle k r363.1).bind fun r366 =>
                                                     (impl_ParsePuzzle k r366).bind fun r367 =>
                                                     (spec_ParsePuzzle k r366).bind fun r368 =>
                                                     cond (!(r367.2 == r368.2))
                                                     (some false)
                                                     ((laws_dPuzzle k (r367.1, r368.1)).bind fun r369 =>
                                                      cond (!r369)
                                                      (some false)
                                                      (cond r367.2
                                                       ((impl_PuzzleText k r367.1).bind fun r370 =>
                                                        cond r370.2
                                                        (some (strEq r370.1 r366))
                                                        (some false))
                                                       (some true)))))))))
                                               ((laws_FnBoardsGuessed_l k (more, r2, r3.1, r5.1, r9.1, r13.1, r15.1, r17.1, r19.1, (w64 (r2.2.1 * r2.2.2.1)), (), (r3.1.length : Int), 0)).bind fun r371 =>
                                                r371.elim
                                                (fun r372 => some r372)
                                                (fun r373 => (laws_FnBoardsGuessed_l_2 k (r373.1, r373.2.1, r373.2.2.1, r373.2.2.2.1, r373.2.2.2.2.1, r373.2.2.2.2.2.1, r373.2.2.2.2.2.2, (r373.2.1.2.2.2.length : Int), 0)).bind fun r374 =>
                                                 r374.elim
                                                 (fun r375 => some r375)
                                                 (fun r376 => (impl_ParsePuzzle k r376.2.2).bind fun r377 =>
                                                  cond (!r377.2)
                                                  (some false)
                                                  ((laws_dPuzzle k (r377.1, r376.2.1)).bind fun r378 =>
                                                   cond (!r378)
                                                   (some false)
                                                   ((spec_DrawParsePuzzle k r376.1).bind fun r379 =>
                                                    (impl_ParsePuzzle k r379).bind fun r380 =>
                                                    (spec_ParsePuzzle k r379).bind fun r381 =>
                                                    cond (!(r380.2 == r381.2))
                                                    (some false)
                                                    ((laws_dPuzzle k (r380.1, r381.1)).bind fun r382 =>
                                                     cond (!r382)
                                                     (some false)
                                                     (cond r380.2
                                                      ((impl_PuzzleText k r380.1).bind fun r383 =>
                                                       cond r383.2
                                                       (some (strEq r383.1 r379))
                                                       (some false))
                                                      (some true))))))))))
                                             (cond r7.2
                                              (cond ((r9.1.size : Int) != (w64 (r2.2.1 * r2.2.2.1)))
                                               (some false)
                                               ((laws_FnBoardsGuessed_l k (more, r2, r3.1, r5.1, r9.1, r13.1, r15.1, r17.1, r19.1, (w64 (r2.2.1 * r2.2.2.1)), (), (r3.1.length : Int), 0)).bind fun r384 =>
                                                r384.elim
                                                (fun r385 => some r385)
                                                (fun r386 => (laws_FnBoardsGuessed_l_2 k (r386.1, r386.2.1, r386.2.2.1, r386.2.2.2.1, r386.2.2.2.2.1, r386.2.2.2.2.2.1, r386.2.2.2.2.2.2, (r386.2.1.2.2.2.length : Int), 0)).bind fun r387 =>
                                                 r387.elim
                                                 (fun r388 => some r388)
                                                 (fun r389 => (impl_ParsePuzzle k r389.2.2).bind fun r390 =>
                                                  cond (!r390.2)
                                                  (some false)
                                                  ((laws_dPuzzle k (r390.1, r389.2.1)).bind fun r391 =>
                                                   cond (!r391)
                                                   (some false)
                                                   ((spec_DrawParsePuzzle k r389.1).bind fun r392 =>
                                                    (impl_ParsePuzzle k r392).bind fun r393 =>
                                                    (spec_ParsePuzzle k r392).bind fun r394 =>
                                                    cond (!(r393.2 == r394.2))
                                                    (some false)
                                                    ((laws_dPuzzle k (r393.1, r394.1)).bind fun r395 =>
                                                     cond (!r395)
                                                     (some false)
                                                     (cond r393.2
                                                      ((impl_PuzzleText k r393.1).bind fun r396 =>
                                                       cond r396.2
                                                       (some (strEq r396.1 r392))
                                                       (some false))
                                                      (some true)))))))))
                                              ((laws_FnBoardsGuessed_l k (more, r2, r3.1, r5.1, r9.1, r13.1, r15.1, r17.1, r19.1, (w64 (r2.2.1 * r2.2.2.1)), (), (r3.1.length : Int), 0)).bind fun r397 =>
                                               r397.elim
                                               (fun r398 => some r398)
                                               (fun r399 => (laws_FnBoardsGuessed_l_2 k (r399.1, r399.2.1, r399.2.2.1, r399.2.2.2.1, r399.2.2.2.2.1, r399.2.2.2.2.2.1, r399.2.2.2.2.2.2, (r399.2.1.2.2.2.length : Int), 0)).bind fun r400 =>
                                                r400.elim
                                                (fun r401 => some r401)
                                                (fun r402 => (impl_ParsePuzzle k r402.2.2).bind fun r403 =>
                                                 cond (!r403.2)
                                                 (some false)
                                                 ((laws_dPuzzle k (r403.1, r402.2.1)).bind fun r404 =>
                                                  cond (!r404)
                                                  (some false)
                                                  ((spec_DrawParsePuzzle k r402.1).bind fun r405 =>
                                                   (impl_ParsePuzzle k r405).bind fun r406 =>
                                                   (spec_ParsePuzzle k r405).bind fun r407 =>
                                                   cond (!(r406.2 == r407.2))
                                                   (some false)
                                                   ((laws_dPuzzle k (r406.1, r407.1)).bind fun r408 =>
                                                    cond (!r408)
                                                    (some false)
                                                    (cond r406.2
                                                     ((impl_PuzzleText k r406.1).bind fun r409 =>
                                                      cond r409.2
                                                      (some (strEq r409.1 r405))
                                                      (some false))
                                                     (some true)))))))))))
                                           (none)))
                                         (none)))))
                                     (none))
                                    (cond (!(r11.1 == (r5.1 == 1)))
                                     (some false)
                                     (cond ((r15.1.length : Int) != (w64 ((r2.2.2.2.length : Int) + 1)))
                                      (some false)
                                      (cond (inB 0 r15.1.length)
                                       (cond ((r15.1.getD 0 default) != r357.1)
                                        (some false)
                                        (cond (inB (r2.2.2.2.length : Int) r15.1.length)
                                         (cond ((r15.1.getD ((r2.2.2.2.length : Int).toNat) default) != r5.1)
                                          (some false)
                                          (cond r11.1
                                           (cond (!(strEq r9.1 r7.1))
                                            (some false)
                                            (cond r7.2
                                             (cond ((r9.1.size : Int) != (w64 (r2.2.1 * r2.2.2.1)))
                                              (some false)
                                              ((laws_FnBoardsGuessed_l k (more, r2, r3.1, r5.1, r9.1, r13.1, r15.1, r17.1, r19.1, (w64 (r2.2.1 * r2.2.2.1)), (), (r3.1.length : Int), 0)).bind fun r410 =>
                                               r410.elim
                                               (fun r411 => some r411)
                                               (fun r412 => (laws_FnBoardsGuessed_l_2 k (r412.1, r412.2.1, r412.2.2.1, r412.2.2.2.1, r412.2.2.2.2.1, r412.2.2.2.2.2.1, r412.2.2.2.2.2.2, (r412.2.1.2.2.2.length : Int), 0)).bind fun r413 =>
                                                r413.elim
                                                (fun r414 => some r414)
                                                (fun r415 => (impl_ParsePuzzle k r415.2.2).bind fun r416 =>
                                                 cond (!r416.2)
                                                 (some false)
                                                 ((laws_dPuzzle k (r416.1, r415.2.1)).bind fun r417 =>
                                                  cond (!r417)
                                                  (some false)
                                                  ((spec_DrawParsePuzzle k r415.1).bind fun r418 =>
                                                   (impl_ParsePuzzle k r418).bind fun r419 =>
                                                   (spec_ParsePuzzle k r418).bind fun r420 =>
                                                   cond (!(r419.2 == r420.2))
                                                   (some false)
                                                   ((laws_dPuzzle k (r419.1, r420.1)).bind fun r421 =>
                                                    cond (!r421)
                                                    (some false)
                                                    (cond r419.2
                                                     ((impl_PuzzleText k r419.1).bind fun r422 =>
                                                      cond r422.2
                                                      (some (strEq r422.1 r418))
                                                      (some false))
                                                     (some true)))))))))
                                             ((laws_FnBoardsGuessed_l k (more, r2, r3.1, r5.1, r9.1, r13.1, r15.1, r17.1, r19.1, (w64 (r2.2.1 * r2.2.2.1)), (), (r3.1.length : Int), 0)).bind fun r423 =>
                                              r423.elim
                                              (fun r424 => some r424)
                                              (fun r425 => (laws_FnBoardsGuessed_l_2 k (r425.1, r425.2.1, r425.2.2.1, r425.2.2.2.1, r425.2.2.2.2.1, r425.2.2.2.2.2.1, r425.2.2.2.2.2.2, (r425.2.1.2.2.2.length : Int), 0)).bind fun r426 =>
                                               r426.elim
                                               (fun r427 => some r427)
                                               (fun r428 => (impl_ParsePuzzle k r428.2.2).bind fun r429 =>
                                                cond (!r429.2)
                                                (some false)
                                                ((laws_dPuzzle k (r429.1, r428.2.1)).bind fun r430 =>
                                                 cond (!r430)
                                                 (some false)
                                                 ((spec_DrawParsePuzzle k r428.1).bind fun r431 =>
                                                  (impl_ParsePuzzle k r431).bind fun r432 =>
                                                  (spec_ParsePuzzle k r431).bind fun r433 =>
                                                  cond (!(r432.2 == r433.2))
                                                  (some false)
                                                  ((laws_dPuzzle k (r432.1, r433.1)).bind fun r434 =>
                                                   cond (!r434)
                                                   (some false)
                                                   (cond r432.2
                                                    ((impl_PuzzleText k r432.1).bind fun r435 =>
                                                     cond r435.2
                                                     (some (strEq r435.1 r431))
                                                     (some false))
                                                    (some true))))))))))
                                           (cond r7.2
                                            (cond ((r9.1.size : Int) != (w64 (r2.2.1 * r2.2.2.1)))
                                             (some false)
                                             ((laws_FnBoardsGuessed_l k (more, r2, r3.1, r5.1, r9.1, r13.1, r15.1, r17.1, r19.1, (w64 (r2.2.1 * r2.2.2.1)), (), (r3.1.length : Int), 0)).bind fun r436 =>
                                              r436.elim
                                              (fun r437 => some r437)
                                              (fun r438 => (laws_FnBoardsGuessed_l_2 k (r438.1, r438.2.1, r438.2.2.1, r438.2.2.2.1, r438.2.2.2.2.1, r438.2.2.2.2.2.1, r438.2.2.2.2.2.2, (r438.2.1.2.2.2.length : Int), 0)).bind fun r439 =>
                                               r439.elim
                                               (fun r440 => some r440)
                                               (fun r441 => (impl_ParsePuzzle k r441.2.2).bind fun r442 =>
                                                cond (!r442.2)
                                                (some false)
                                                ((laws_dPuzzle k (r442.1, r441.2.1)).bind fun r443 =>
                                                 cond (!r443)
                                                 (some false)
                                                 ((spec_DrawParsePuzzle k r441.1).bind fun r444 =>
                                                  (impl_ParsePuzzle k r444).bind fun r445 =>
                                                  (spec_ParsePuzzle k r444).bind fun r446 =>
                                                  cond (!(r445.2 == r446.2))
                                                  (some false)
                                                  ((laws_dPuzzle k (r445.1, r446.1)).bind fun r447 =>
                                                   cond (!r447)
                                                   (some false)
                                                   (cond r445.2
                                                    ((impl_PuzzleText k r445.1).bind fun r448 =>
                                                     cond r448.2
                                                     (some (strEq r448.1 r444))
                                                     (some false))
                                                    (some true)))))))))
                                            ((laws_FnBoardsGuessed_l k (more, r2, r3.1, r5.1, r9.1, r13.1, r15.1, r17.1, r19.1, (w64 (r2.2.1 * r2.2.2.1)), (), (r3.1.length : Int), 0)).bind fun r449 =>
                                             r449.elim
                                             (fun r450 => some r450)
                                             (fun r451 => (laws_FnBoardsGuessed_l_2 k (r451.1, r451.2.1, r451.2.2.1, r451.2.2.2.1, r451.2.2.2.2.1, r451.2.2.2.2.2.1, r451.2.2.2.2.2.2, (r451.2.1.2.2.2.length : Int), 0)).bind fun r452 =>
                                              r452.elim
                                              (fun r453 => some r453)
                                              (fun r454 => (impl_ParsePuzzle k r454.2.2).bind fun r455 =>
                                               cond (!r455.2)
                                               (some false)
                                               ((laws_dPuzzle k (r455.1, r454.2.1)).bind fun r456 =>
                                                cond (!r456)
                                                (some false)
                                                ((spec_DrawParsePuzzle k r454.1).bind fun r457 =>
                                                 (impl_ParsePuzzle k r457).bind fun r458 =>
                                                 (spec_ParsePuzzle k r457).bind fun r459 =>
                                                 cond (!(r458.2 == r459.2))
                                                 (some false)
                                                 ((laws_dPuzzle k (r458.1, r459.1)).bind fun r460 =>
                                                  cond (!r460)
                                                  (some false)
                                                  (cond r458.2
                                                   ((impl_PuzzleText k r458.1).bind fun r461 =>
                                                    cond r461.2
                                                    (some (strEq r461.1 r457))
                                                    (some false))
                                                   (some true)))))))))))
                                         (none)))
                                       (none)))))))
                                 ((spec_DrawParsePuzzle k more).bind fun r462 =>
                                  (impl_ParsePuzzle k r462).bind fun r463 =>
                                  (spec_ParsePuzzle k r462).bind fun r464 =>
                                  cond (!(r463.2 == r464.2))
                                  (some false)
                                  ((laws_dPuzzle k (r463.1, r464.1)).bind fun r465 =>
                                   cond (!r465)
                                   (some false)
                                   (cond r463.2
                                    ((impl_PuzzleText k r463.1).bind fun r466 =>
                                     cond r466.2
                                     (some (strEq r466.1 r462))
                                     (some false))
                                    (some true))))))))))))))))))))))))))))))))))) := by kernel_rfl
end Go.Proofs.YtplamonjnlgomaaGreatDoorS
