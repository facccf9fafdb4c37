/- Part 4 of what the law stands on: abstract values, their walk, contracts of functions. My own work. Conditions: none. -/
import Derived.Test.YtfmnokjicnagaaaPart2
import Derived.Test.YtfmnokjicnagaaaProg
import Derived.WalkKit
import Derived.Deep.RegionLaw
import Derived.Lib.SliceRun
import Derived.Lib.Walk
import Derived.Test.YtfmnokjicnagaaaPart3
set_option linter.unusedVariables false
namespace Go.Am
def theTab : Tab := [
  (1, .fnc, 1, 8),
  (2, .int .i64, 1, 8),
  (3, .int .i64, 1, 8),
  (4, .bool, 1, 1),
  (5, .int .u8, 1, 1),
  (9, .str, 1, 16),
  (12, .int .u64, 1, 8),
  (13, .sct [(9, 0), (12, 1)], 2, 24),
  (21, .int .i32, 1, 4),
  (22, .arr 6 5, 6, 6),
  (23, .arr 6 22, 36, 36),
  (24, .arr 6 23, 216, 216),
  (25, .sct [(2, 0), (2, 1), (24, 2), (22, 218)], 224, 240),
  (26, .sct [(2, 0), (2, 1), (24, 2), (22, 218)], 224, 240),
  (28, .fnc, 1, 8),
  (29, .arr 6 5, 6, 6),
  (30, .sct [(2, 0), (2, 1), (24, 2), (29, 218)], 224, 240),
  (31, .sct [(2, 0), (2, 1), (24, 2), (29, 218)], 224, 240),
  (32, .fnc, 1, 8),
  (33, .fnc, 1, 8),
  (34, .fnc, 1, 8),
  (35, .fnc, 1, 8),
  (36, .fnc, 1, 8),
  (38, .fnc, 1, 8),
  (39, .fnc, 1, 8),
  (40, .fnc, 1, 8),
  (41, .fnc, 1, 8),
  (43, .fnc, 1, 8),
  (44, .fnc, 1, 8),
  (45, .fnc, 1, 8),
  (46, .fnc, 1, 8),
  (47, .slc 2, 1, 24),
  (49, .fnc, 1, 8),
  (50, .fnc, 1, 8),
  (51, .fnc, 1, 8),
  (52, .slc 29, 1, 24),
  (54, .fnc, 1, 8),
  (55, .fnc, 1, 8),
  (56, .fnc, 1, 8),
  (57, .slc 47, 1, 24),
  (59, .fnc, 1, 8),
  (60, .fnc, 1, 8),
  (61, .fnc, 1, 8),
  (62, .slc 22, 1, 24),
  (63, .fnc, 1, 8),
  (64, .fnc, 1, 8),
  (65, .fnc, 1, 8),
  (66, .fnc, 1, 8),
  (67, .fnc, 1, 8),
  (68, .fnc, 1, 8),
  (69, .fnc, 1, 8),
  (71, .fnc, 1, 8),
  (72, .fnc, 1, 8),
  (73, .fnc, 1, 8),
  (74, .fnc, 1, 8),
  (75, .fnc, 1, 8),
  (76, .fnc, 1, 8),
  (77, .fnc, 1, 8),
  (78, .ptr 31, 1, 8),
  (79, .fnc, 1, 8),
  (80, .fnc, 1, 8),
  (81, .fnc, 1, 8),
  (82, .fnc, 1, 8),
  (83, .fnc, 1, 8),
  (84, .fnc, 1, 8),
  (85, .fnc, 1, 8),
  (86, .fnc, 1, 8),
  (88, .fnc, 1, 8),
  (89, .fnc, 1, 8),
  (90, .fnc, 1, 8),
  (91, .fnc, 1, 8),
  (92, .fnc, 1, 8),
  (93, .fnc, 1, 8),
  (94, .fnc, 1, 8),
  (95, .fnc, 1, 8),
  (96, .fnc, 1, 8),
  (97, .fnc, 1, 8),
  (98, .fnc, 1, 8),
  (99, .fnc, 1, 8),
  (100, .fnc, 1, 8),
  (101, .fnc, 1, 8),
  (102, .fnc, 1, 8),
  (103, .fnc, 1, 8),
  (104, .fnc, 1, 8),
  (105, .fnc, 1, 8),
  (106, .fnc, 1, 8),
  (107, .fnc, 1, 8),
  (108, .fnc, 1, 8),
  (109, .fnc, 1, 8),
  (110, .fnc, 1, 8),
  (111, .fnc, 1, 8),
  (112, .fnc, 1, 8),
  (113, .fnc, 1, 8),
  (114, .fnc, 1, 8),
  (115, .fnc, 1, 8),
  (116, .fnc, 1, 8),
  (117, .fnc, 1, 8),
  (118, .fnc, 1, 8),
  (119, .fnc, 1, 8),
  (120, .arr 6 2, 6, 48),
  (121, .fnc, 1, 8),
  (122, .fnc, 1, 8),
  (123, .fnc, 1, 8),
  (124, .fnc, 1, 8),
  (125, .fnc, 1, 8),
  (126, .fnc, 1, 8),
  (127, .fnc, 1, 8),
  (128, .fnc, 1, 8),
  (129, .fnc, 1, 8),
  (130, .slc 111, 1, 24),
  (131, .fnc, 1, 8),
  (132, .fnc, 1, 8),
  (133, .fnc, 1, 8),
  (134, .fnc, 1, 8),
  (135, .fnc, 1, 8),
  (136, .fnc, 1, 8),
  (137, .fnc, 1, 8),
  (138, .fnc, 1, 8),
  (139, .fnc, 1, 8),
  (140, .fnc, 1, 8),
  (141, .fnc, 1, 8),
  (142, .fnc, 1, 8),
  (143, .fnc, 1, 8),
  (144, .fnc, 1, 8),
  (145, .fnc, 1, 8),
  (146, .fnc, 1, 8),
  (152, .int .u32, 1, 4),
  (155, .fnc, 1, 8),
  (156, .ptr 5, 1, 8)]
def TB : TT := mkT theTab
theorem tokTB : TOk Go.Proofs.Try.prog TB := tok (by kernel_rfl)
theorem mixed : Go.Proofs.Try.prog.follows .mixedOrders = true := by kernel_rfl
theorem und1 : TB.und 1 = .fnc := by kernel_rfl
theorem sz1 : TB.sz 1 = 1 := by kernel_rfl
theorem by1 : TB.by_ 1 = 8 := by kernel_rfl
theorem kn1 : (TB.und 1).known = true := by kernel_rfl
theorem ag1 : (TB.und 1).isAgg = false := by kernel_rfl
theorem nz1 : TB.sz 1 ≠ 0 := by rw [sz1]; decide
theorem und2 : TB.und 2 = .int .i64 := by kernel_rfl
theorem sz2 : TB.sz 2 = 1 := by kernel_rfl
theorem by2 : TB.by_ 2 = 8 := by kernel_rfl
theorem kn2 : (TB.und 2).known = true := by kernel_rfl
theorem ag2 : (TB.und 2).isAgg = false := by kernel_rfl
theorem nz2 : TB.sz 2 ≠ 0 := by rw [sz2]; decide
theorem zr2 : TB.zero 2 = .int .i64 0 := by kernel_rfl
theorem und3 : TB.und 3 = .int .i64 := by kernel_rfl
theorem sz3 : TB.sz 3 = 1 := by kernel_rfl
theorem by3 : TB.by_ 3 = 8 := by kernel_rfl
theorem kn3 : (TB.und 3).known = true := by kernel_rfl
theorem ag3 : (TB.und 3).isAgg = false := by kernel_rfl
theorem nz3 : TB.sz 3 ≠ 0 := by rw [sz3]; decide
theorem zr3 : TB.zero 3 = .int .i64 0 := by kernel_rfl
theorem und4 : TB.und 4 = .bool := by kernel_rfl
theorem sz4 : TB.sz 4 = 1 := by kernel_rfl
theorem by4 : TB.by_ 4 = 1 := by kernel_rfl
theorem kn4 : (TB.und 4).known = true := by kernel_rfl
theorem ag4 : (TB.und 4).isAgg = false := by kernel_rfl
theorem nz4 : TB.sz 4 ≠ 0 := by rw [sz4]; decide
theorem zr4 : TB.zero 4 = .bool false := by kernel_rfl
theorem und5 : TB.und 5 = .int .u8 := by kernel_rfl
theorem sz5 : TB.sz 5 = 1 := by kernel_rfl
theorem by5 : TB.by_ 5 = 1 := by kernel_rfl
theorem kn5 : (TB.und 5).known = true := by kernel_rfl
theorem ag5 : (TB.und 5).isAgg = false := by kernel_rfl
theorem nz5 : TB.sz 5 ≠ 0 := by rw [sz5]; decide
theorem zr5 : TB.zero 5 = .int .u8 0 := by kernel_rfl
theorem und9 : TB.und 9 = .str := by kernel_rfl
theorem sz9 : TB.sz 9 = 1 := by kernel_rfl
theorem by9 : TB.by_ 9 = 16 := by kernel_rfl
theorem kn9 : (TB.und 9).known = true := by kernel_rfl
theorem ag9 : (TB.und 9).isAgg = false := by kernel_rfl
theorem nz9 : TB.sz 9 ≠ 0 := by rw [sz9]; decide
theorem und12 : TB.und 12 = .int .u64 := by kernel_rfl
theorem sz12 : TB.sz 12 = 1 := by kernel_rfl
theorem by12 : TB.by_ 12 = 8 := by kernel_rfl
theorem kn12 : (TB.und 12).known = true := by kernel_rfl
theorem ag12 : (TB.und 12).isAgg = false := by kernel_rfl
theorem nz12 : TB.sz 12 ≠ 0 := by rw [sz12]; decide
theorem zr12 : TB.zero 12 = .int .u64 0 := by kernel_rfl
theorem und13 : TB.und 13 = .sct [(9, 0), (12, 1)] := by kernel_rfl
theorem sz13 : TB.sz 13 = 2 := by kernel_rfl
theorem by13 : TB.by_ 13 = 24 := by kernel_rfl
theorem kn13 : (TB.und 13).known = true := by kernel_rfl
theorem ag13 : (TB.und 13).isAgg = true := by kernel_rfl
theorem nz13 : TB.sz 13 ≠ 0 := by rw [sz13]; decide
theorem und21 : TB.und 21 = .int .i32 := by kernel_rfl
theorem sz21 : TB.sz 21 = 1 := by kernel_rfl
theorem by21 : TB.by_ 21 = 4 := by kernel_rfl
theorem kn21 : (TB.und 21).known = true := by kernel_rfl
theorem ag21 : (TB.und 21).isAgg = false := by kernel_rfl
theorem nz21 : TB.sz 21 ≠ 0 := by rw [sz21]; decide
theorem zr21 : TB.zero 21 = .int .i32 0 := by kernel_rfl
theorem und22 : TB.und 22 = .arr 6 5 := by kernel_rfl
theorem sz22 : TB.sz 22 = 6 := by kernel_rfl
theorem by22 : TB.by_ 22 = 6 := by kernel_rfl
theorem kn22 : (TB.und 22).known = true := by kernel_rfl
theorem ag22 : (TB.und 22).isAgg = true := by kernel_rfl
theorem nz22 : TB.sz 22 ≠ 0 := by rw [sz22]; decide
theorem zr22 : TB.zero 22 = .arr 6 (fun _ => .int .u8 0) := by kernel_rfl
theorem und23 : TB.und 23 = .arr 6 22 := by kernel_rfl
theorem sz23 : TB.sz 23 = 36 := by kernel_rfl
theorem by23 : TB.by_ 23 = 36 := by kernel_rfl
theorem kn23 : (TB.und 23).known = true := by kernel_rfl
theorem ag23 : (TB.und 23).isAgg = true := by kernel_rfl
theorem nz23 : TB.sz 23 ≠ 0 := by rw [sz23]; decide
theorem zr23 : TB.zero 23 = .arr 6 (fun _ => .arr 6 (fun _ => .int .u8 0)) := by kernel_rfl
theorem und24 : TB.und 24 = .arr 6 23 := by kernel_rfl
theorem sz24 : TB.sz 24 = 216 := by kernel_rfl
theorem by24 : TB.by_ 24 = 216 := by kernel_rfl
theorem kn24 : (TB.und 24).known = true := by kernel_rfl
theorem ag24 : (TB.und 24).isAgg = true := by kernel_rfl
theorem nz24 : TB.sz 24 ≠ 0 := by rw [sz24]; decide
theorem zr24 : TB.zero 24 = .arr 6 (fun _ => .arr 6 (fun _ => .arr 6 (fun _ => .int .u8 0))) := by kernel_rfl
theorem und25 : TB.und 25 = .sct [(2, 0), (2, 1), (24, 2), (22, 218)] := by kernel_rfl
theorem sz25 : TB.sz 25 = 224 := by kernel_rfl
theorem by25 : TB.by_ 25 = 240 := by kernel_rfl
theorem kn25 : (TB.und 25).known = true := by kernel_rfl
theorem ag25 : (TB.und 25).isAgg = true := by kernel_rfl
theorem nz25 : TB.sz 25 ≠ 0 := by rw [sz25]; decide
theorem und26 : TB.und 26 = .sct [(2, 0), (2, 1), (24, 2), (22, 218)] := by kernel_rfl
theorem sz26 : TB.sz 26 = 224 := by kernel_rfl
theorem by26 : TB.by_ 26 = 240 := by kernel_rfl
theorem kn26 : (TB.und 26).known = true := by kernel_rfl
theorem ag26 : (TB.und 26).isAgg = true := by kernel_rfl
theorem nz26 : TB.sz 26 ≠ 0 := by rw [sz26]; decide
theorem und28 : TB.und 28 = .fnc := by kernel_rfl
theorem sz28 : TB.sz 28 = 1 := by kernel_rfl
theorem by28 : TB.by_ 28 = 8 := by kernel_rfl
theorem kn28 : (TB.und 28).known = true := by kernel_rfl
theorem ag28 : (TB.und 28).isAgg = false := by kernel_rfl
theorem nz28 : TB.sz 28 ≠ 0 := by rw [sz28]; decide
theorem und29 : TB.und 29 = .arr 6 5 := by kernel_rfl
theorem sz29 : TB.sz 29 = 6 := by kernel_rfl
theorem by29 : TB.by_ 29 = 6 := by kernel_rfl
theorem kn29 : (TB.und 29).known = true := by kernel_rfl
theorem ag29 : (TB.und 29).isAgg = true := by kernel_rfl
theorem nz29 : TB.sz 29 ≠ 0 := by rw [sz29]; decide
theorem zr29 : TB.zero 29 = .arr 6 (fun _ => .int .u8 0) := by kernel_rfl
theorem und30 : TB.und 30 = .sct [(2, 0), (2, 1), (24, 2), (29, 218)] := by kernel_rfl
theorem sz30 : TB.sz 30 = 224 := by kernel_rfl
theorem by30 : TB.by_ 30 = 240 := by kernel_rfl
theorem kn30 : (TB.und 30).known = true := by kernel_rfl
theorem ag30 : (TB.und 30).isAgg = true := by kernel_rfl
theorem nz30 : TB.sz 30 ≠ 0 := by rw [sz30]; decide
theorem und31 : TB.und 31 = .sct [(2, 0), (2, 1), (24, 2), (29, 218)] := by kernel_rfl
theorem sz31 : TB.sz 31 = 224 := by kernel_rfl
theorem by31 : TB.by_ 31 = 240 := by kernel_rfl
theorem kn31 : (TB.und 31).known = true := by kernel_rfl
theorem ag31 : (TB.und 31).isAgg = true := by kernel_rfl
theorem nz31 : TB.sz 31 ≠ 0 := by rw [sz31]; decide
theorem und32 : TB.und 32 = .fnc := by kernel_rfl
theorem sz32 : TB.sz 32 = 1 := by kernel_rfl
theorem by32 : TB.by_ 32 = 8 := by kernel_rfl
theorem kn32 : (TB.und 32).known = true := by kernel_rfl
theorem ag32 : (TB.und 32).isAgg = false := by kernel_rfl
theorem nz32 : TB.sz 32 ≠ 0 := by rw [sz32]; decide
theorem und33 : TB.und 33 = .fnc := by kernel_rfl
theorem sz33 : TB.sz 33 = 1 := by kernel_rfl
theorem by33 : TB.by_ 33 = 8 := by kernel_rfl
theorem kn33 : (TB.und 33).known = true := by kernel_rfl
theorem ag33 : (TB.und 33).isAgg = false := by kernel_rfl
theorem nz33 : TB.sz 33 ≠ 0 := by rw [sz33]; decide
theorem und34 : TB.und 34 = .fnc := by kernel_rfl
theorem sz34 : TB.sz 34 = 1 := by kernel_rfl
theorem by34 : TB.by_ 34 = 8 := by kernel_rfl
theorem kn34 : (TB.und 34).known = true := by kernel_rfl
theorem ag34 : (TB.und 34).isAgg = false := by kernel_rfl
theorem nz34 : TB.sz 34 ≠ 0 := by rw [sz34]; decide
theorem und35 : TB.und 35 = .fnc := by kernel_rfl
theorem sz35 : TB.sz 35 = 1 := by kernel_rfl
theorem by35 : TB.by_ 35 = 8 := by kernel_rfl
theorem kn35 : (TB.und 35).known = true := by kernel_rfl
theorem ag35 : (TB.und 35).isAgg = false := by kernel_rfl
theorem nz35 : TB.sz 35 ≠ 0 := by rw [sz35]; decide
theorem und36 : TB.und 36 = .fnc := by kernel_rfl
theorem sz36 : TB.sz 36 = 1 := by kernel_rfl
theorem by36 : TB.by_ 36 = 8 := by kernel_rfl
theorem kn36 : (TB.und 36).known = true := by kernel_rfl
theorem ag36 : (TB.und 36).isAgg = false := by kernel_rfl
theorem nz36 : TB.sz 36 ≠ 0 := by rw [sz36]; decide
theorem und38 : TB.und 38 = .fnc := by kernel_rfl
theorem sz38 : TB.sz 38 = 1 := by kernel_rfl
theorem by38 : TB.by_ 38 = 8 := by kernel_rfl
theorem kn38 : (TB.und 38).known = true := by kernel_rfl
theorem ag38 : (TB.und 38).isAgg = false := by kernel_rfl
theorem nz38 : TB.sz 38 ≠ 0 := by rw [sz38]; decide
theorem und39 : TB.und 39 = .fnc := by kernel_rfl
theorem sz39 : TB.sz 39 = 1 := by kernel_rfl
theorem by39 : TB.by_ 39 = 8 := by kernel_rfl
theorem kn39 : (TB.und 39).known = true := by kernel_rfl
theorem ag39 : (TB.und 39).isAgg = false := by kernel_rfl
theorem nz39 : TB.sz 39 ≠ 0 := by rw [sz39]; decide
theorem und40 : TB.und 40 = .fnc := by kernel_rfl
theorem sz40 : TB.sz 40 = 1 := by kernel_rfl
theorem by40 : TB.by_ 40 = 8 := by kernel_rfl
theorem kn40 : (TB.und 40).known = true := by kernel_rfl
theorem ag40 : (TB.und 40).isAgg = false := by kernel_rfl
theorem nz40 : TB.sz 40 ≠ 0 := by rw [sz40]; decide
theorem und41 : TB.und 41 = .fnc := by kernel_rfl
theorem sz41 : TB.sz 41 = 1 := by kernel_rfl
theorem by41 : TB.by_ 41 = 8 := by kernel_rfl
theorem kn41 : (TB.und 41).known = true := by kernel_rfl
theorem ag41 : (TB.und 41).isAgg = false := by kernel_rfl
theorem nz41 : TB.sz 41 ≠ 0 := by rw [sz41]; decide
theorem und43 : TB.und 43 = .fnc := by kernel_rfl
theorem sz43 : TB.sz 43 = 1 := by kernel_rfl
theorem by43 : TB.by_ 43 = 8 := by kernel_rfl
theorem kn43 : (TB.und 43).known = true := by kernel_rfl
theorem ag43 : (TB.und 43).isAgg = false := by kernel_rfl
theorem nz43 : TB.sz 43 ≠ 0 := by rw [sz43]; decide
theorem und44 : TB.und 44 = .fnc := by kernel_rfl
theorem sz44 : TB.sz 44 = 1 := by kernel_rfl
theorem by44 : TB.by_ 44 = 8 := by kernel_rfl
theorem kn44 : (TB.und 44).known = true := by kernel_rfl
theorem ag44 : (TB.und 44).isAgg = false := by kernel_rfl
theorem nz44 : TB.sz 44 ≠ 0 := by rw [sz44]; decide
theorem und45 : TB.und 45 = .fnc := by kernel_rfl
theorem sz45 : TB.sz 45 = 1 := by kernel_rfl
theorem by45 : TB.by_ 45 = 8 := by kernel_rfl
theorem kn45 : (TB.und 45).known = true := by kernel_rfl
theorem ag45 : (TB.und 45).isAgg = false := by kernel_rfl
theorem nz45 : TB.sz 45 ≠ 0 := by rw [sz45]; decide
theorem und46 : TB.und 46 = .fnc := by kernel_rfl
theorem sz46 : TB.sz 46 = 1 := by kernel_rfl
theorem by46 : TB.by_ 46 = 8 := by kernel_rfl
theorem kn46 : (TB.und 46).known = true := by kernel_rfl
theorem ag46 : (TB.und 46).isAgg = false := by kernel_rfl
theorem nz46 : TB.sz 46 ≠ 0 := by rw [sz46]; decide
theorem und47 : TB.und 47 = .slc 2 := by kernel_rfl
theorem sz47 : TB.sz 47 = 1 := by kernel_rfl
theorem by47 : TB.by_ 47 = 24 := by kernel_rfl
theorem kn47 : (TB.und 47).known = true := by kernel_rfl
theorem ag47 : (TB.und 47).isAgg = false := by kernel_rfl
theorem nz47 : TB.sz 47 ≠ 0 := by rw [sz47]; decide
theorem zr47 : TB.zero 47 = .nilsl := by kernel_rfl
theorem und49 : TB.und 49 = .fnc := by kernel_rfl
theorem sz49 : TB.sz 49 = 1 := by kernel_rfl
theorem by49 : TB.by_ 49 = 8 := by kernel_rfl
theorem kn49 : (TB.und 49).known = true := by kernel_rfl
theorem ag49 : (TB.und 49).isAgg = false := by kernel_rfl
theorem nz49 : TB.sz 49 ≠ 0 := by rw [sz49]; decide
theorem und50 : TB.und 50 = .fnc := by kernel_rfl
theorem sz50 : TB.sz 50 = 1 := by kernel_rfl
theorem by50 : TB.by_ 50 = 8 := by kernel_rfl
theorem kn50 : (TB.und 50).known = true := by kernel_rfl
theorem ag50 : (TB.und 50).isAgg = false := by kernel_rfl
theorem nz50 : TB.sz 50 ≠ 0 := by rw [sz50]; decide
theorem und51 : TB.und 51 = .fnc := by kernel_rfl
theorem sz51 : TB.sz 51 = 1 := by kernel_rfl
theorem by51 : TB.by_ 51 = 8 := by kernel_rfl
theorem kn51 : (TB.und 51).known = true := by kernel_rfl
theorem ag51 : (TB.und 51).isAgg = false := by kernel_rfl
theorem nz51 : TB.sz 51 ≠ 0 := by rw [sz51]; decide
theorem und52 : TB.und 52 = .slc 29 := by kernel_rfl
theorem sz52 : TB.sz 52 = 1 := by kernel_rfl
theorem by52 : TB.by_ 52 = 24 := by kernel_rfl
theorem kn52 : (TB.und 52).known = true := by kernel_rfl
theorem ag52 : (TB.und 52).isAgg = false := by kernel_rfl
theorem nz52 : TB.sz 52 ≠ 0 := by rw [sz52]; decide
theorem zr52 : TB.zero 52 = .nilsl := by kernel_rfl
theorem und54 : TB.und 54 = .fnc := by kernel_rfl
theorem sz54 : TB.sz 54 = 1 := by kernel_rfl
theorem by54 : TB.by_ 54 = 8 := by kernel_rfl
theorem kn54 : (TB.und 54).known = true := by kernel_rfl
theorem ag54 : (TB.und 54).isAgg = false := by kernel_rfl
theorem nz54 : TB.sz 54 ≠ 0 := by rw [sz54]; decide
theorem und55 : TB.und 55 = .fnc := by kernel_rfl
theorem sz55 : TB.sz 55 = 1 := by kernel_rfl
theorem by55 : TB.by_ 55 = 8 := by kernel_rfl
theorem kn55 : (TB.und 55).known = true := by kernel_rfl
theorem ag55 : (TB.und 55).isAgg = false := by kernel_rfl
theorem nz55 : TB.sz 55 ≠ 0 := by rw [sz55]; decide
theorem und56 : TB.und 56 = .fnc := by kernel_rfl
theorem sz56 : TB.sz 56 = 1 := by kernel_rfl
theorem by56 : TB.by_ 56 = 8 := by kernel_rfl
theorem kn56 : (TB.und 56).known = true := by kernel_rfl
theorem ag56 : (TB.und 56).isAgg = false := by kernel_rfl
theorem nz56 : TB.sz 56 ≠ 0 := by rw [sz56]; decide
theorem und57 : TB.und 57 = .slc 47 := by kernel_rfl
theorem sz57 : TB.sz 57 = 1 := by kernel_rfl
theorem by57 : TB.by_ 57 = 24 := by kernel_rfl
theorem kn57 : (TB.und 57).known = true := by kernel_rfl
theorem ag57 : (TB.und 57).isAgg = false := by kernel_rfl
theorem nz57 : TB.sz 57 ≠ 0 := by rw [sz57]; decide
theorem zr57 : TB.zero 57 = .nilsl := by kernel_rfl
theorem und59 : TB.und 59 = .fnc := by kernel_rfl
theorem sz59 : TB.sz 59 = 1 := by kernel_rfl
theorem by59 : TB.by_ 59 = 8 := by kernel_rfl
theorem kn59 : (TB.und 59).known = true := by kernel_rfl
theorem ag59 : (TB.und 59).isAgg = false := by kernel_rfl
theorem nz59 : TB.sz 59 ≠ 0 := by rw [sz59]; decide
theorem und60 : TB.und 60 = .fnc := by kernel_rfl
theorem sz60 : TB.sz 60 = 1 := by kernel_rfl
theorem by60 : TB.by_ 60 = 8 := by kernel_rfl
theorem kn60 : (TB.und 60).known = true := by kernel_rfl
theorem ag60 : (TB.und 60).isAgg = false := by kernel_rfl
theorem nz60 : TB.sz 60 ≠ 0 := by rw [sz60]; decide
theorem und61 : TB.und 61 = .fnc := by kernel_rfl
theorem sz61 : TB.sz 61 = 1 := by kernel_rfl
theorem by61 : TB.by_ 61 = 8 := by kernel_rfl
theorem kn61 : (TB.und 61).known = true := by kernel_rfl
theorem ag61 : (TB.und 61).isAgg = false := by kernel_rfl
theorem nz61 : TB.sz 61 ≠ 0 := by rw [sz61]; decide
theorem und62 : TB.und 62 = .slc 22 := by kernel_rfl
theorem sz62 : TB.sz 62 = 1 := by kernel_rfl
theorem by62 : TB.by_ 62 = 24 := by kernel_rfl
theorem kn62 : (TB.und 62).known = true := by kernel_rfl
theorem ag62 : (TB.und 62).isAgg = false := by kernel_rfl
theorem nz62 : TB.sz 62 ≠ 0 := by rw [sz62]; decide
theorem zr62 : TB.zero 62 = .nilsl := by kernel_rfl
theorem und63 : TB.und 63 = .fnc := by kernel_rfl
theorem sz63 : TB.sz 63 = 1 := by kernel_rfl
theorem by63 : TB.by_ 63 = 8 := by kernel_rfl
theorem kn63 : (TB.und 63).known = true := by kernel_rfl
theorem ag63 : (TB.und 63).isAgg = false := by kernel_rfl
theorem nz63 : TB.sz 63 ≠ 0 := by rw [sz63]; decide
theorem und64 : TB.und 64 = .fnc := by kernel_rfl
theorem sz64 : TB.sz 64 = 1 := by kernel_rfl
theorem by64 : TB.by_ 64 = 8 := by kernel_rfl
theorem kn64 : (TB.und 64).known = true := by kernel_rfl
theorem ag64 : (TB.und 64).isAgg = false := by kernel_rfl
theorem nz64 : TB.sz 64 ≠ 0 := by rw [sz64]; decide
theorem und65 : TB.und 65 = .fnc := by kernel_rfl
theorem sz65 : TB.sz 65 = 1 := by kernel_rfl
theorem by65 : TB.by_ 65 = 8 := by kernel_rfl
theorem kn65 : (TB.und 65).known = true := by kernel_rfl
theorem ag65 : (TB.und 65).isAgg = false := by kernel_rfl
theorem nz65 : TB.sz 65 ≠ 0 := by rw [sz65]; decide
theorem und66 : TB.und 66 = .fnc := by kernel_rfl
theorem sz66 : TB.sz 66 = 1 := by kernel_rfl
theorem by66 : TB.by_ 66 = 8 := by kernel_rfl
theorem kn66 : (TB.und 66).known = true := by kernel_rfl
theorem ag66 : (TB.und 66).isAgg = false := by kernel_rfl
theorem nz66 : TB.sz 66 ≠ 0 := by rw [sz66]; decide
theorem und67 : TB.und 67 = .fnc := by kernel_rfl
theorem sz67 : TB.sz 67 = 1 := by kernel_rfl
theorem by67 : TB.by_ 67 = 8 := by kernel_rfl
theorem kn67 : (TB.und 67).known = true := by kernel_rfl
theorem ag67 : (TB.und 67).isAgg = false := by kernel_rfl
theorem nz67 : TB.sz 67 ≠ 0 := by rw [sz67]; decide
theorem und68 : TB.und 68 = .fnc := by kernel_rfl
theorem sz68 : TB.sz 68 = 1 := by kernel_rfl
theorem by68 : TB.by_ 68 = 8 := by kernel_rfl
theorem kn68 : (TB.und 68).known = true := by kernel_rfl
theorem ag68 : (TB.und 68).isAgg = false := by kernel_rfl
theorem nz68 : TB.sz 68 ≠ 0 := by rw [sz68]; decide
theorem und69 : TB.und 69 = .fnc := by kernel_rfl
theorem sz69 : TB.sz 69 = 1 := by kernel_rfl
theorem by69 : TB.by_ 69 = 8 := by kernel_rfl
theorem kn69 : (TB.und 69).known = true := by kernel_rfl
theorem ag69 : (TB.und 69).isAgg = false := by kernel_rfl
theorem nz69 : TB.sz 69 ≠ 0 := by rw [sz69]; decide
theorem und71 : TB.und 71 = .fnc := by kernel_rfl
theorem sz71 : TB.sz 71 = 1 := by kernel_rfl
theorem by71 : TB.by_ 71 = 8 := by kernel_rfl
theorem kn71 : (TB.und 71).known = true := by kernel_rfl
theorem ag71 : (TB.und 71).isAgg = false := by kernel_rfl
theorem nz71 : TB.sz 71 ≠ 0 := by rw [sz71]; decide
theorem und72 : TB.und 72 = .fnc := by kernel_rfl
theorem sz72 : TB.sz 72 = 1 := by kernel_rfl
theorem by72 : TB.by_ 72 = 8 := by kernel_rfl
theorem kn72 : (TB.und 72).known = true := by kernel_rfl
theorem ag72 : (TB.und 72).isAgg = false := by kernel_rfl
theorem nz72 : TB.sz 72 ≠ 0 := by rw [sz72]; decide
theorem und73 : TB.und 73 = .fnc := by kernel_rfl
theorem sz73 : TB.sz 73 = 1 := by kernel_rfl
theorem by73 : TB.by_ 73 = 8 := by kernel_rfl
theorem kn73 : (TB.und 73).known = true := by kernel_rfl
theorem ag73 : (TB.und 73).isAgg = false := by kernel_rfl
theorem nz73 : TB.sz 73 ≠ 0 := by rw [sz73]; decide
theorem und74 : TB.und 74 = .fnc := by kernel_rfl
theorem sz74 : TB.sz 74 = 1 := by kernel_rfl
theorem by74 : TB.by_ 74 = 8 := by kernel_rfl
theorem kn74 : (TB.und 74).known = true := by kernel_rfl
theorem ag74 : (TB.und 74).isAgg = false := by kernel_rfl
theorem nz74 : TB.sz 74 ≠ 0 := by rw [sz74]; decide
theorem und75 : TB.und 75 = .fnc := by kernel_rfl
theorem sz75 : TB.sz 75 = 1 := by kernel_rfl
theorem by75 : TB.by_ 75 = 8 := by kernel_rfl
theorem kn75 : (TB.und 75).known = true := by kernel_rfl
theorem ag75 : (TB.und 75).isAgg = false := by kernel_rfl
theorem nz75 : TB.sz 75 ≠ 0 := by rw [sz75]; decide
theorem und76 : TB.und 76 = .fnc := by kernel_rfl
theorem sz76 : TB.sz 76 = 1 := by kernel_rfl
theorem by76 : TB.by_ 76 = 8 := by kernel_rfl
theorem kn76 : (TB.und 76).known = true := by kernel_rfl
theorem ag76 : (TB.und 76).isAgg = false := by kernel_rfl
theorem nz76 : TB.sz 76 ≠ 0 := by rw [sz76]; decide
theorem und77 : TB.und 77 = .fnc := by kernel_rfl
theorem sz77 : TB.sz 77 = 1 := by kernel_rfl
theorem by77 : TB.by_ 77 = 8 := by kernel_rfl
theorem kn77 : (TB.und 77).known = true := by kernel_rfl
theorem ag77 : (TB.und 77).isAgg = false := by kernel_rfl
theorem nz77 : TB.sz 77 ≠ 0 := by rw [sz77]; decide
theorem und78 : TB.und 78 = .ptr 31 := by kernel_rfl
theorem sz78 : TB.sz 78 = 1 := by kernel_rfl
theorem by78 : TB.by_ 78 = 8 := by kernel_rfl
theorem kn78 : (TB.und 78).known = true := by kernel_rfl
theorem ag78 : (TB.und 78).isAgg = false := by kernel_rfl
theorem nz78 : TB.sz 78 ≠ 0 := by rw [sz78]; decide
theorem und79 : TB.und 79 = .fnc := by kernel_rfl
theorem sz79 : TB.sz 79 = 1 := by kernel_rfl
theorem by79 : TB.by_ 79 = 8 := by kernel_rfl
theorem kn79 : (TB.und 79).known = true := by kernel_rfl
theorem ag79 : (TB.und 79).isAgg = false := by kernel_rfl
theorem nz79 : TB.sz 79 ≠ 0 := by rw [sz79]; decide
theorem und80 : TB.und 80 = .fnc := by kernel_rfl
theorem sz80 : TB.sz 80 = 1 := by kernel_rfl
theorem by80 : TB.by_ 80 = 8 := by kernel_rfl
theorem kn80 : (TB.und 80).known = true := by kernel_rfl
theorem ag80 : (TB.und 80).isAgg = false := by kernel_rfl
theorem nz80 : TB.sz 80 ≠ 0 := by rw [sz80]; decide
theorem und81 : TB.und 81 = .fnc := by kernel_rfl
theorem sz81 : TB.sz 81 = 1 := by kernel_rfl
theorem by81 : TB.by_ 81 = 8 := by kernel_rfl
theorem kn81 : (TB.und 81).known = true := by kernel_rfl
theorem ag81 : (TB.und 81).isAgg = false := by kernel_rfl
theorem nz81 : TB.sz 81 ≠ 0 := by rw [sz81]; decide
theorem und82 : TB.und 82 = .fnc := by kernel_rfl
theorem sz82 : TB.sz 82 = 1 := by kernel_rfl
theorem by82 : TB.by_ 82 = 8 := by kernel_rfl
theorem kn82 : (TB.und 82).known = true := by kernel_rfl
theorem ag82 : (TB.und 82).isAgg = false := by kernel_rfl
theorem nz82 : TB.sz 82 ≠ 0 := by rw [sz82]; decide
theorem und83 : TB.und 83 = .fnc := by kernel_rfl
theorem sz83 : TB.sz 83 = 1 := by kernel_rfl
theorem by83 : TB.by_ 83 = 8 := by kernel_rfl
theorem kn83 : (TB.und 83).known = true := by kernel_rfl
theorem ag83 : (TB.und 83).isAgg = false := by kernel_rfl
theorem nz83 : TB.sz 83 ≠ 0 := by rw [sz83]; decide
theorem und84 : TB.und 84 = .fnc := by kernel_rfl
theorem sz84 : TB.sz 84 = 1 := by kernel_rfl
theorem by84 : TB.by_ 84 = 8 := by kernel_rfl
theorem kn84 : (TB.und 84).known = true := by kernel_rfl
theorem ag84 : (TB.und 84).isAgg = false := by kernel_rfl
theorem nz84 : TB.sz 84 ≠ 0 := by rw [sz84]; decide
theorem und85 : TB.und 85 = .fnc := by kernel_rfl
theorem sz85 : TB.sz 85 = 1 := by kernel_rfl
theorem by85 : TB.by_ 85 = 8 := by kernel_rfl
theorem kn85 : (TB.und 85).known = true := by kernel_rfl
theorem ag85 : (TB.und 85).isAgg = false := by kernel_rfl
theorem nz85 : TB.sz 85 ≠ 0 := by rw [sz85]; decide
theorem und86 : TB.und 86 = .fnc := by kernel_rfl
theorem sz86 : TB.sz 86 = 1 := by kernel_rfl
theorem by86 : TB.by_ 86 = 8 := by kernel_rfl
theorem kn86 : (TB.und 86).known = true := by kernel_rfl
theorem ag86 : (TB.und 86).isAgg = false := by kernel_rfl
theorem nz86 : TB.sz 86 ≠ 0 := by rw [sz86]; decide
theorem und88 : TB.und 88 = .fnc := by kernel_rfl
theorem sz88 : TB.sz 88 = 1 := by kernel_rfl
theorem by88 : TB.by_ 88 = 8 := by kernel_rfl
theorem kn88 : (TB.und 88).known = true := by kernel_rfl
theorem ag88 : (TB.und 88).isAgg = false := by kernel_rfl
theorem nz88 : TB.sz 88 ≠ 0 := by rw [sz88]; decide
theorem und89 : TB.und 89 = .fnc := by kernel_rfl
theorem sz89 : TB.sz 89 = 1 := by kernel_rfl
theorem by89 : TB.by_ 89 = 8 := by kernel_rfl
theorem kn89 : (TB.und 89).known = true := by kernel_rfl
theorem ag89 : (TB.und 89).isAgg = false := by kernel_rfl
theorem nz89 : TB.sz 89 ≠ 0 := by rw [sz89]; decide
theorem und90 : TB.und 90 = .fnc := by kernel_rfl
theorem sz90 : TB.sz 90 = 1 := by kernel_rfl
theorem by90 : TB.by_ 90 = 8 := by kernel_rfl
theorem kn90 : (TB.und 90).known = true := by kernel_rfl
theorem ag90 : (TB.und 90).isAgg = false := by kernel_rfl
theorem nz90 : TB.sz 90 ≠ 0 := by rw [sz90]; decide
theorem und91 : TB.und 91 = .fnc := by kernel_rfl
theorem sz91 : TB.sz 91 = 1 := by kernel_rfl
theorem by91 : TB.by_ 91 = 8 := by kernel_rfl
theorem kn91 : (TB.und 91).known = true := by kernel_rfl
theorem ag91 : (TB.und 91).isAgg = false := by kernel_rfl
theorem nz91 : TB.sz 91 ≠ 0 := by rw [sz91]; decide
theorem und92 : TB.und 92 = .fnc := by kernel_rfl
theorem sz92 : TB.sz 92 = 1 := by kernel_rfl
theorem by92 : TB.by_ 92 = 8 := by kernel_rfl
theorem kn92 : (TB.und 92).known = true := by kernel_rfl
theorem ag92 : (TB.und 92).isAgg = false := by kernel_rfl
theorem nz92 : TB.sz 92 ≠ 0 := by rw [sz92]; decide
theorem und93 : TB.und 93 = .fnc := by kernel_rfl
theorem sz93 : TB.sz 93 = 1 := by kernel_rfl
theorem by93 : TB.by_ 93 = 8 := by kernel_rfl
theorem kn93 : (TB.und 93).known = true := by kernel_rfl
theorem ag93 : (TB.und 93).isAgg = false := by kernel_rfl
theorem nz93 : TB.sz 93 ≠ 0 := by rw [sz93]; decide
theorem und94 : TB.und 94 = .fnc := by kernel_rfl
theorem sz94 : TB.sz 94 = 1 := by kernel_rfl
theorem by94 : TB.by_ 94 = 8 := by kernel_rfl
theorem kn94 : (TB.und 94).known = true := by kernel_rfl
theorem ag94 : (TB.und 94).isAgg = false := by kernel_rfl
theorem nz94 : TB.sz 94 ≠ 0 := by rw [sz94]; decide
theorem und95 : TB.und 95 = .fnc := by kernel_rfl
theorem sz95 : TB.sz 95 = 1 := by kernel_rfl
theorem by95 : TB.by_ 95 = 8 := by kernel_rfl
theorem kn95 : (TB.und 95).known = true := by kernel_rfl
theorem ag95 : (TB.und 95).isAgg = false := by kernel_rfl
theorem nz95 : TB.sz 95 ≠ 0 := by rw [sz95]; decide
theorem und96 : TB.und 96 = .fnc := by kernel_rfl
theorem sz96 : TB.sz 96 = 1 := by kernel_rfl
theorem by96 : TB.by_ 96 = 8 := by kernel_rfl
theorem kn96 : (TB.und 96).known = true := by kernel_rfl
theorem ag96 : (TB.und 96).isAgg = false := by kernel_rfl
theorem nz96 : TB.sz 96 ≠ 0 := by rw [sz96]; decide
theorem und97 : TB.und 97 = .fnc := by kernel_rfl
theorem sz97 : TB.sz 97 = 1 := by kernel_rfl
theorem by97 : TB.by_ 97 = 8 := by kernel_rfl
theorem kn97 : (TB.und 97).known = true := by kernel_rfl
theorem ag97 : (TB.und 97).isAgg = false := by kernel_rfl
theorem nz97 : TB.sz 97 ≠ 0 := by rw [sz97]; decide
theorem und98 : TB.und 98 = .fnc := by kernel_rfl
theorem sz98 : TB.sz 98 = 1 := by kernel_rfl
theorem by98 : TB.by_ 98 = 8 := by kernel_rfl
theorem kn98 : (TB.und 98).known = true := by kernel_rfl
theorem ag98 : (TB.und 98).isAgg = false := by kernel_rfl
theorem nz98 : TB.sz 98 ≠ 0 := by rw [sz98]; decide
theorem und99 : TB.und 99 = .fnc := by kernel_rfl
theorem sz99 : TB.sz 99 = 1 := by kernel_rfl
theorem by99 : TB.by_ 99 = 8 := by kernel_rfl
theorem kn99 : (TB.und 99).known = true := by kernel_rfl
theorem ag99 : (TB.und 99).isAgg = false := by kernel_rfl
theorem nz99 : TB.sz 99 ≠ 0 := by rw [sz99]; decide
theorem und100 : TB.und 100 = .fnc := by kernel_rfl
theorem sz100 : TB.sz 100 = 1 := by kernel_rfl
theorem by100 : TB.by_ 100 = 8 := by kernel_rfl
theorem kn100 : (TB.und 100).known = true := by kernel_rfl
theorem ag100 : (TB.und 100).isAgg = false := by kernel_rfl
theorem nz100 : TB.sz 100 ≠ 0 := by rw [sz100]; decide
theorem und101 : TB.und 101 = .fnc := by kernel_rfl
theorem sz101 : TB.sz 101 = 1 := by kernel_rfl
theorem by101 : TB.by_ 101 = 8 := by kernel_rfl
theorem kn101 : (TB.und 101).known = true := by kernel_rfl
theorem ag101 : (TB.und 101).isAgg = false := by kernel_rfl
theorem nz101 : TB.sz 101 ≠ 0 := by rw [sz101]; decide
theorem und102 : TB.und 102 = .fnc := by kernel_rfl
theorem sz102 : TB.sz 102 = 1 := by kernel_rfl
theorem by102 : TB.by_ 102 = 8 := by kernel_rfl
theorem kn102 : (TB.und 102).known = true := by kernel_rfl
theorem ag102 : (TB.und 102).isAgg = false := by kernel_rfl
theorem nz102 : TB.sz 102 ≠ 0 := by rw [sz102]; decide
theorem und103 : TB.und 103 = .fnc := by kernel_rfl
theorem sz103 : TB.sz 103 = 1 := by kernel_rfl
theorem by103 : TB.by_ 103 = 8 := by kernel_rfl
theorem kn103 : (TB.und 103).known = true := by kernel_rfl
theorem ag103 : (TB.und 103).isAgg = false := by kernel_rfl
theorem nz103 : TB.sz 103 ≠ 0 := by rw [sz103]; decide
theorem und104 : TB.und 104 = .fnc := by kernel_rfl
theorem sz104 : TB.sz 104 = 1 := by kernel_rfl
theorem by104 : TB.by_ 104 = 8 := by kernel_rfl
theorem kn104 : (TB.und 104).known = true := by kernel_rfl
theorem ag104 : (TB.und 104).isAgg = false := by kernel_rfl
theorem nz104 : TB.sz 104 ≠ 0 := by rw [sz104]; decide
theorem und105 : TB.und 105 = .fnc := by kernel_rfl
theorem sz105 : TB.sz 105 = 1 := by kernel_rfl
theorem by105 : TB.by_ 105 = 8 := by kernel_rfl
theorem kn105 : (TB.und 105).known = true := by kernel_rfl
theorem ag105 : (TB.und 105).isAgg = false := by kernel_rfl
theorem nz105 : TB.sz 105 ≠ 0 := by rw [sz105]; decide
theorem und106 : TB.und 106 = .fnc := by kernel_rfl
theorem sz106 : TB.sz 106 = 1 := by kernel_rfl
theorem by106 : TB.by_ 106 = 8 := by kernel_rfl
theorem kn106 : (TB.und 106).known = true := by kernel_rfl
theorem ag106 : (TB.und 106).isAgg = false := by kernel_rfl
theorem nz106 : TB.sz 106 ≠ 0 := by rw [sz106]; decide
theorem und107 : TB.und 107 = .fnc := by kernel_rfl
theorem sz107 : TB.sz 107 = 1 := by kernel_rfl
theorem by107 : TB.by_ 107 = 8 := by kernel_rfl
theorem kn107 : (TB.und 107).known = true := by kernel_rfl
theorem ag107 : (TB.und 107).isAgg = false := by kernel_rfl
theorem nz107 : TB.sz 107 ≠ 0 := by rw [sz107]; decide
theorem und108 : TB.und 108 = .fnc := by kernel_rfl
theorem sz108 : TB.sz 108 = 1 := by kernel_rfl
theorem by108 : TB.by_ 108 = 8 := by kernel_rfl
theorem kn108 : (TB.und 108).known = true := by kernel_rfl
theorem ag108 : (TB.und 108).isAgg = false := by kernel_rfl
theorem nz108 : TB.sz 108 ≠ 0 := by rw [sz108]; decide
theorem und109 : TB.und 109 = .fnc := by kernel_rfl
theorem sz109 : TB.sz 109 = 1 := by kernel_rfl
theorem by109 : TB.by_ 109 = 8 := by kernel_rfl
theorem kn109 : (TB.und 109).known = true := by kernel_rfl
theorem ag109 : (TB.und 109).isAgg = false := by kernel_rfl
theorem nz109 : TB.sz 109 ≠ 0 := by rw [sz109]; decide
theorem und110 : TB.und 110 = .fnc := by kernel_rfl
theorem sz110 : TB.sz 110 = 1 := by kernel_rfl
theorem by110 : TB.by_ 110 = 8 := by kernel_rfl
theorem kn110 : (TB.und 110).known = true := by kernel_rfl
theorem ag110 : (TB.und 110).isAgg = false := by kernel_rfl
theorem nz110 : TB.sz 110 ≠ 0 := by rw [sz110]; decide
theorem und111 : TB.und 111 = .fnc := by kernel_rfl
theorem sz111 : TB.sz 111 = 1 := by kernel_rfl
theorem by111 : TB.by_ 111 = 8 := by kernel_rfl
theorem kn111 : (TB.und 111).known = true := by kernel_rfl
theorem ag111 : (TB.und 111).isAgg = false := by kernel_rfl
theorem nz111 : TB.sz 111 ≠ 0 := by rw [sz111]; decide
theorem und112 : TB.und 112 = .fnc := by kernel_rfl
theorem sz112 : TB.sz 112 = 1 := by kernel_rfl
theorem by112 : TB.by_ 112 = 8 := by kernel_rfl
theorem kn112 : (TB.und 112).known = true := by kernel_rfl
theorem ag112 : (TB.und 112).isAgg = false := by kernel_rfl
theorem nz112 : TB.sz 112 ≠ 0 := by rw [sz112]; decide
theorem und113 : TB.und 113 = .fnc := by kernel_rfl
theorem sz113 : TB.sz 113 = 1 := by kernel_rfl
theorem by113 : TB.by_ 113 = 8 := by kernel_rfl
theorem kn113 : (TB.und 113).known = true := by kernel_rfl
theorem ag113 : (TB.und 113).isAgg = false := by kernel_rfl
theorem nz113 : TB.sz 113 ≠ 0 := by rw [sz113]; decide
theorem und114 : TB.und 114 = .fnc := by kernel_rfl
theorem sz114 : TB.sz 114 = 1 := by kernel_rfl
theorem by114 : TB.by_ 114 = 8 := by kernel_rfl
theorem kn114 : (TB.und 114).known = true := by kernel_rfl
theorem ag114 : (TB.und 114).isAgg = false := by kernel_rfl
theorem nz114 : TB.sz 114 ≠ 0 := by rw [sz114]; decide
theorem und115 : TB.und 115 = .fnc := by kernel_rfl
theorem sz115 : TB.sz 115 = 1 := by kernel_rfl
theorem by115 : TB.by_ 115 = 8 := by kernel_rfl
theorem kn115 : (TB.und 115).known = true := by kernel_rfl
theorem ag115 : (TB.und 115).isAgg = false := by kernel_rfl
theorem nz115 : TB.sz 115 ≠ 0 := by rw [sz115]; decide
theorem und116 : TB.und 116 = .fnc := by kernel_rfl
theorem sz116 : TB.sz 116 = 1 := by kernel_rfl
theorem by116 : TB.by_ 116 = 8 := by kernel_rfl
theorem kn116 : (TB.und 116).known = true := by kernel_rfl
theorem ag116 : (TB.und 116).isAgg = false := by kernel_rfl
theorem nz116 : TB.sz 116 ≠ 0 := by rw [sz116]; decide
theorem und117 : TB.und 117 = .fnc := by kernel_rfl
theorem sz117 : TB.sz 117 = 1 := by kernel_rfl
theorem by117 : TB.by_ 117 = 8 := by kernel_rfl
theorem kn117 : (TB.und 117).known = true := by kernel_rfl
theorem ag117 : (TB.und 117).isAgg = false := by kernel_rfl
theorem nz117 : TB.sz 117 ≠ 0 := by rw [sz117]; decide
theorem und118 : TB.und 118 = .fnc := by kernel_rfl
theorem sz118 : TB.sz 118 = 1 := by kernel_rfl
theorem by118 : TB.by_ 118 = 8 := by kernel_rfl
theorem kn118 : (TB.und 118).known = true := by kernel_rfl
theorem ag118 : (TB.und 118).isAgg = false := by kernel_rfl
theorem nz118 : TB.sz 118 ≠ 0 := by rw [sz118]; decide
theorem und119 : TB.und 119 = .fnc := by kernel_rfl
theorem sz119 : TB.sz 119 = 1 := by kernel_rfl
theorem by119 : TB.by_ 119 = 8 := by kernel_rfl
theorem kn119 : (TB.und 119).known = true := by kernel_rfl
theorem ag119 : (TB.und 119).isAgg = false := by kernel_rfl
theorem nz119 : TB.sz 119 ≠ 0 := by rw [sz119]; decide
theorem und120 : TB.und 120 = .arr 6 2 := by kernel_rfl
theorem sz120 : TB.sz 120 = 6 := by kernel_rfl
theorem by120 : TB.by_ 120 = 48 := by kernel_rfl
theorem kn120 : (TB.und 120).known = true := by kernel_rfl
theorem ag120 : (TB.und 120).isAgg = true := by kernel_rfl
theorem nz120 : TB.sz 120 ≠ 0 := by rw [sz120]; decide
theorem zr120 : TB.zero 120 = .arr 6 (fun _ => .int .i64 0) := by kernel_rfl
theorem und121 : TB.und 121 = .fnc := by kernel_rfl
theorem sz121 : TB.sz 121 = 1 := by kernel_rfl
theorem by121 : TB.by_ 121 = 8 := by kernel_rfl
theorem kn121 : (TB.und 121).known = true := by kernel_rfl
theorem ag121 : (TB.und 121).isAgg = false := by kernel_rfl
theorem nz121 : TB.sz 121 ≠ 0 := by rw [sz121]; decide
theorem und122 : TB.und 122 = .fnc := by kernel_rfl
theorem sz122 : TB.sz 122 = 1 := by kernel_rfl
theorem by122 : TB.by_ 122 = 8 := by kernel_rfl
theorem kn122 : (TB.und 122).known = true := by kernel_rfl
theorem ag122 : (TB.und 122).isAgg = false := by kernel_rfl
theorem nz122 : TB.sz 122 ≠ 0 := by rw [sz122]; decide
theorem und123 : TB.und 123 = .fnc := by kernel_rfl
theorem sz123 : TB.sz 123 = 1 := by kernel_rfl
theorem by123 : TB.by_ 123 = 8 := by kernel_rfl
theorem kn123 : (TB.und 123).known = true := by kernel_rfl
theorem ag123 : (TB.und 123).isAgg = false := by kernel_rfl
theorem nz123 : TB.sz 123 ≠ 0 := by rw [sz123]; decide
theorem und124 : TB.und 124 = .fnc := by kernel_rfl
theorem sz124 : TB.sz 124 = 1 := by kernel_rfl
theorem by124 : TB.by_ 124 = 8 := by kernel_rfl
theorem kn124 : (TB.und 124).known = true := by kernel_rfl
theorem ag124 : (TB.und 124).isAgg = false := by kernel_rfl
theorem nz124 : TB.sz 124 ≠ 0 := by rw [sz124]; decide
theorem und125 : TB.und 125 = .fnc := by kernel_rfl
theorem sz125 : TB.sz 125 = 1 := by kernel_rfl
theorem by125 : TB.by_ 125 = 8 := by kernel_rfl
theorem kn125 : (TB.und 125).known = true := by kernel_rfl
theorem ag125 : (TB.und 125).isAgg = false := by kernel_rfl
theorem nz125 : TB.sz 125 ≠ 0 := by rw [sz125]; decide
theorem und126 : TB.und 126 = .fnc := by kernel_rfl
theorem sz126 : TB.sz 126 = 1 := by kernel_rfl
theorem by126 : TB.by_ 126 = 8 := by kernel_rfl
theorem kn126 : (TB.und 126).known = true := by kernel_rfl
theorem ag126 : (TB.und 126).isAgg = false := by kernel_rfl
theorem nz126 : TB.sz 126 ≠ 0 := by rw [sz126]; decide
theorem und127 : TB.und 127 = .fnc := by kernel_rfl
theorem sz127 : TB.sz 127 = 1 := by kernel_rfl
theorem by127 : TB.by_ 127 = 8 := by kernel_rfl
theorem kn127 : (TB.und 127).known = true := by kernel_rfl
theorem ag127 : (TB.und 127).isAgg = false := by kernel_rfl
theorem nz127 : TB.sz 127 ≠ 0 := by rw [sz127]; decide
theorem und128 : TB.und 128 = .fnc := by kernel_rfl
theorem sz128 : TB.sz 128 = 1 := by kernel_rfl
theorem by128 : TB.by_ 128 = 8 := by kernel_rfl
theorem kn128 : (TB.und 128).known = true := by kernel_rfl
theorem ag128 : (TB.und 128).isAgg = false := by kernel_rfl
theorem nz128 : TB.sz 128 ≠ 0 := by rw [sz128]; decide
theorem und129 : TB.und 129 = .fnc := by kernel_rfl
theorem sz129 : TB.sz 129 = 1 := by kernel_rfl
theorem by129 : TB.by_ 129 = 8 := by kernel_rfl
theorem kn129 : (TB.und 129).known = true := by kernel_rfl
theorem ag129 : (TB.und 129).isAgg = false := by kernel_rfl
theorem nz129 : TB.sz 129 ≠ 0 := by rw [sz129]; decide
theorem und130 : TB.und 130 = .slc 111 := by kernel_rfl
theorem sz130 : TB.sz 130 = 1 := by kernel_rfl
theorem by130 : TB.by_ 130 = 24 := by kernel_rfl
theorem kn130 : (TB.und 130).known = true := by kernel_rfl
theorem ag130 : (TB.und 130).isAgg = false := by kernel_rfl
theorem nz130 : TB.sz 130 ≠ 0 := by rw [sz130]; decide
theorem zr130 : TB.zero 130 = .nilsl := by kernel_rfl
theorem und131 : TB.und 131 = .fnc := by kernel_rfl
theorem sz131 : TB.sz 131 = 1 := by kernel_rfl
theorem by131 : TB.by_ 131 = 8 := by kernel_rfl
theorem kn131 : (TB.und 131).known = true := by kernel_rfl
theorem ag131 : (TB.und 131).isAgg = false := by kernel_rfl
theorem nz131 : TB.sz 131 ≠ 0 := by rw [sz131]; decide
theorem und132 : TB.und 132 = .fnc := by kernel_rfl
theorem sz132 : TB.sz 132 = 1 := by kernel_rfl
theorem by132 : TB.by_ 132 = 8 := by kernel_rfl
theorem kn132 : (TB.und 132).known = true := by kernel_rfl
theorem ag132 : (TB.und 132).isAgg = false := by kernel_rfl
theorem nz132 : TB.sz 132 ≠ 0 := by rw [sz132]; decide
theorem und133 : TB.und 133 = .fnc := by kernel_rfl
theorem sz133 : TB.sz 133 = 1 := by kernel_rfl
theorem by133 : TB.by_ 133 = 8 := by kernel_rfl
theorem kn133 : (TB.und 133).known = true := by kernel_rfl
theorem ag133 : (TB.und 133).isAgg = false := by kernel_rfl
theorem nz133 : TB.sz 133 ≠ 0 := by rw [sz133]; decide
theorem und134 : TB.und 134 = .fnc := by kernel_rfl
theorem sz134 : TB.sz 134 = 1 := by kernel_rfl
theorem by134 : TB.by_ 134 = 8 := by kernel_rfl
theorem kn134 : (TB.und 134).known = true := by kernel_rfl
theorem ag134 : (TB.und 134).isAgg = false := by kernel_rfl
theorem nz134 : TB.sz 134 ≠ 0 := by rw [sz134]; decide
theorem und135 : TB.und 135 = .fnc := by kernel_rfl
theorem sz135 : TB.sz 135 = 1 := by kernel_rfl
theorem by135 : TB.by_ 135 = 8 := by kernel_rfl
theorem kn135 : (TB.und 135).known = true := by kernel_rfl
theorem ag135 : (TB.und 135).isAgg = false := by kernel_rfl
theorem nz135 : TB.sz 135 ≠ 0 := by rw [sz135]; decide
theorem und136 : TB.und 136 = .fnc := by kernel_rfl
theorem sz136 : TB.sz 136 = 1 := by kernel_rfl
theorem by136 : TB.by_ 136 = 8 := by kernel_rfl
theorem kn136 : (TB.und 136).known = true := by kernel_rfl
theorem ag136 : (TB.und 136).isAgg = false := by kernel_rfl
theorem nz136 : TB.sz 136 ≠ 0 := by rw [sz136]; decide
theorem und137 : TB.und 137 = .fnc := by kernel_rfl
theorem sz137 : TB.sz 137 = 1 := by kernel_rfl
theorem by137 : TB.by_ 137 = 8 := by kernel_rfl
theorem kn137 : (TB.und 137).known = true := by kernel_rfl
theorem ag137 : (TB.und 137).isAgg = false := by kernel_rfl
theorem nz137 : TB.sz 137 ≠ 0 := by rw [sz137]; decide
theorem und138 : TB.und 138 = .fnc := by kernel_rfl
theorem sz138 : TB.sz 138 = 1 := by kernel_rfl
theorem by138 : TB.by_ 138 = 8 := by kernel_rfl
theorem kn138 : (TB.und 138).known = true := by kernel_rfl
theorem ag138 : (TB.und 138).isAgg = false := by kernel_rfl
theorem nz138 : TB.sz 138 ≠ 0 := by rw [sz138]; decide
theorem und139 : TB.und 139 = .fnc := by kernel_rfl
theorem sz139 : TB.sz 139 = 1 := by kernel_rfl
theorem by139 : TB.by_ 139 = 8 := by kernel_rfl
theorem kn139 : (TB.und 139).known = true := by kernel_rfl
theorem ag139 : (TB.und 139).isAgg = false := by kernel_rfl
theorem nz139 : TB.sz 139 ≠ 0 := by rw [sz139]; decide
theorem und140 : TB.und 140 = .fnc := by kernel_rfl
theorem sz140 : TB.sz 140 = 1 := by kernel_rfl
theorem by140 : TB.by_ 140 = 8 := by kernel_rfl
theorem kn140 : (TB.und 140).known = true := by kernel_rfl
theorem ag140 : (TB.und 140).isAgg = false := by kernel_rfl
theorem nz140 : TB.sz 140 ≠ 0 := by rw [sz140]; decide
theorem und141 : TB.und 141 = .fnc := by kernel_rfl
theorem sz141 : TB.sz 141 = 1 := by kernel_rfl
theorem by141 : TB.by_ 141 = 8 := by kernel_rfl
theorem kn141 : (TB.und 141).known = true := by kernel_rfl
theorem ag141 : (TB.und 141).isAgg = false := by kernel_rfl
theorem nz141 : TB.sz 141 ≠ 0 := by rw [sz141]; decide
theorem und142 : TB.und 142 = .fnc := by kernel_rfl
theorem sz142 : TB.sz 142 = 1 := by kernel_rfl
theorem by142 : TB.by_ 142 = 8 := by kernel_rfl
theorem kn142 : (TB.und 142).known = true := by kernel_rfl
theorem ag142 : (TB.und 142).isAgg = false := by kernel_rfl
theorem nz142 : TB.sz 142 ≠ 0 := by rw [sz142]; decide
theorem und143 : TB.und 143 = .fnc := by kernel_rfl
theorem sz143 : TB.sz 143 = 1 := by kernel_rfl
theorem by143 : TB.by_ 143 = 8 := by kernel_rfl
theorem kn143 : (TB.und 143).known = true := by kernel_rfl
theorem ag143 : (TB.und 143).isAgg = false := by kernel_rfl
theorem nz143 : TB.sz 143 ≠ 0 := by rw [sz143]; decide
theorem und144 : TB.und 144 = .fnc := by kernel_rfl
theorem sz144 : TB.sz 144 = 1 := by kernel_rfl
theorem by144 : TB.by_ 144 = 8 := by kernel_rfl
theorem kn144 : (TB.und 144).known = true := by kernel_rfl
theorem ag144 : (TB.und 144).isAgg = false := by kernel_rfl
theorem nz144 : TB.sz 144 ≠ 0 := by rw [sz144]; decide
theorem und145 : TB.und 145 = .fnc := by kernel_rfl
theorem sz145 : TB.sz 145 = 1 := by kernel_rfl
theorem by145 : TB.by_ 145 = 8 := by kernel_rfl
theorem kn145 : (TB.und 145).known = true := by kernel_rfl
theorem ag145 : (TB.und 145).isAgg = false := by kernel_rfl
theorem nz145 : TB.sz 145 ≠ 0 := by rw [sz145]; decide
theorem und146 : TB.und 146 = .fnc := by kernel_rfl
theorem sz146 : TB.sz 146 = 1 := by kernel_rfl
theorem by146 : TB.by_ 146 = 8 := by kernel_rfl
theorem kn146 : (TB.und 146).known = true := by kernel_rfl
theorem ag146 : (TB.und 146).isAgg = false := by kernel_rfl
theorem nz146 : TB.sz 146 ≠ 0 := by rw [sz146]; decide
theorem und152 : TB.und 152 = .int .u32 := by kernel_rfl
theorem sz152 : TB.sz 152 = 1 := by kernel_rfl
theorem by152 : TB.by_ 152 = 4 := by kernel_rfl
theorem kn152 : (TB.und 152).known = true := by kernel_rfl
theorem ag152 : (TB.und 152).isAgg = false := by kernel_rfl
theorem nz152 : TB.sz 152 ≠ 0 := by rw [sz152]; decide
theorem zr152 : TB.zero 152 = .int .u32 0 := by kernel_rfl
theorem und155 : TB.und 155 = .fnc := by kernel_rfl
theorem sz155 : TB.sz 155 = 1 := by kernel_rfl
theorem by155 : TB.by_ 155 = 8 := by kernel_rfl
theorem kn155 : (TB.und 155).known = true := by kernel_rfl
theorem ag155 : (TB.und 155).isAgg = false := by kernel_rfl
theorem nz155 : TB.sz 155 ≠ 0 := by rw [sz155]; decide
theorem und156 : TB.und 156 = .ptr 5 := by kernel_rfl
theorem sz156 : TB.sz 156 = 1 := by kernel_rfl
theorem by156 : TB.by_ 156 = 8 := by kernel_rfl
theorem kn156 : (TB.und 156).known = true := by kernel_rfl
theorem ag156 : (TB.und 156).isAgg = false := by kernel_rfl
theorem nz156 : TB.sz 156 ≠ 0 := by rw [sz156]; decide
theorem zr31 : TB.zero 31 = algA 0 0 (fun _ _ _ => 0) (fun _ => 0) := by
  refine congrArg (AV.sct 4) (funext fun i => ?_)
  match i with
  | 0 => rfl
  | 1 => rfl
  | 2 => rfl
  | 3 => rfl
  | n + 4 => rfl
theorem zr26 : TB.zero 26 = algA 0 0 (fun _ _ _ => 0) (fun _ => 0) := by
  refine congrArg (AV.sct 4) (funext fun i => ?_)
  match i with
  | 0 => rfl
  | 1 => rfl
  | 2 => rfl
  | 3 => rfl
  | n + 4 => rfl
end Go.Am
/- slices.Delete of one row, run. My own work, after the pattern of the kit's walk of the same library function. -/
set_option linter.unusedVariables false
set_option linter.unusedSimpArgs false
namespace Go.Am
open Go.Proofs Go.RowKit
set_option maxHeartbeats 4000000 in
set_option maxRecDepth 100000 in
theorem del_low : DelC Try.prog 141 (.slice none 0 0) := by
  intro w b cap n a cur e hb hn hcap hcs ha h1
  simp only [maxLen] at hcap
  obtain ⟨news, hnews⟩ : ∃ news, news = (cur.toList.drop (a + 1)).take (n - 1 - a) := ⟨_, rfl⟩
  rw [← hnews]
  have hlen : news.length = n - (a + 1) := by rw [hnews]; simp; omega
  have hget : ∀ t, t < n - (a + 1) → news[t]? = some (cur.getD (a + 1 + t) undef) := by
    intro t ht
    rw [hnews, List.getElem?_take, if_pos (by omega), List.getElem?_drop]
    simp [show a + 1 + t < cur.size by omega]
  have hcell : ∀ j, j < n → w.cell? ⟨b, j, none⟩ = some (cur.getD j undef) := by
    intro j hj
    simp [World.cell?, hb, show j < cur.size by omega]
  have hfr : ∀ (w' : World) (c' : Array Value) (e' : TypeId) j, w'.heap[b]? = some (.cells c' e' (0, 0)) → w'.frozen? ⟨b, j, none⟩ = false := by
    intro w' c' e' j h
    simp [World.frozen?, h]
  obtain ⟨A, hA, hsrc⟩ : ∃ A : Addr, (if cap = a + 1 then some (⟨b, 0, none⟩ : Addr) else some ⟨b, a + 1, none⟩) = some A ∧ Hid (∀ t u, news[t]? = some u → w.drew.cell? (A.add t) = some u) := by
    by_cases h : cap = a + 1
    · refine ⟨⟨b, 0, none⟩, by simp [h], fun t u hu => ?_⟩
      have h0 : news.length = 0 := by rw [hlen]; omega
      rw [List.length_eq_zero_iff.1 h0] at hu
      simp at hu
    · refine ⟨⟨b, a + 1, none⟩, by simp [h], fun t u hu => ?_⟩
      have ht : t < n - (a + 1) := by
        have := (List.getElem?_eq_some_iff.1 hu).1
        rwa [hlen] at this
      rw [hget t ht] at hu
      rw [Addr.add_lit]
      exact (hcell (a + 1 + t) (by omega)).trans hu
  have s1 : Hid (news.length = (n - (a + 1)) * 1) := by rw [Nat.mul_one]; exact hlen
  have s2 : Hid (∀ u ∈ news, u.oneCell' = true) := by
    intro u hu
    rw [hnews] at hu
    have := List.mem_of_mem_take hu
    refine h1 u ?_
    obtain ⟨j, hj⟩ := List.mem_iff_getElem?.1 hu
    have hjl : j < n - (a + 1) := by
      have := (List.getElem?_eq_some_iff.1 hj).1
      rw [← hnews, hlen] at this; exact this
    have := hget j hjl
    rw [hnews, hj] at this
    rw [List.mem_iff_getElem?]
    refine ⟨a + 1 + j, ?_⟩
    rw [List.getElem?_take, if_pos (by omega), this]
    simp [show a + 1 + j < cur.size by omega]
  have s3 : Hid (∀ t, t < news.length → (w.drew.cell? ⟨b, 0 + a * 1 + t, none⟩).isSome = true ∧ w.drew.frozen? ⟨b, 0 + a * 1 + t, none⟩ = false) := by
    intro t ht
    rw [hlen] at ht
    refine ⟨?_, hfr _ _ _ _ hb⟩
    show (w.cell? _).isSome = true
    rw [hcell _ (by omega)]; rfl
  obtain ⟨W1, hW1⟩ : ∃ W1, W1 = w.drew.setCells b (0 + a * 1) news := ⟨_, rfl⟩
  obtain ⟨c1, c2, c3, c4, c5, c6⟩ := setCells_facts b news (0 + a * 1) w.drew cur e (0, 0) hb
  rw [← hW1] at c1
  have hcl : ∀ ty, (Builtin.clear_ #[57] ty #[.slice (some ⟨b, a + (n - (a + 1)), none⟩) (n - (a + (n - (a + 1)))) (cap - (a + (n - (a + 1))))]).run Try.prog W1 = .ok (.tuple #[]) (W1.setCells b (a + (n - (a + 1))) (List.replicate (n - (a + (n - (a + 1)))) (.slice none 0 0))) :=
    fun ty => Lib.run_clear_slice W1 _ _ ty _ Try.underlying57 Try.zeroValue47 rfl rfl b _ _ _ (by omega) (fun t ht => by
      simp [World.cell?, c1, setL_size]; omega) (fun t ht => hfr _ _ _ _ c1)
  have hW : Hid (W1 = w.drew.setCells b (0 + a * 1) news) := hW1
  have hic : a ≤ cap := by omega
  have hjc : a + 1 ≤ cap := by omega
  have hq1 : (0 : Int) ≤ (a : Int) + 1 := by omega
  have hq2 : (a : Int) + 1 ≤ (n : Int) := by omega
  have hlast : n - (a + (n - (a + 1))) = 1 := by omega
  have hl2 : a + (n - (a + 1)) = n - 1 := by omega
  have X1 : Hid (n - (a + (n - (a + 1))) = 1) := hlast
  have X2 : Hid (a + (n - (a + 1)) = n - 1) := hl2
  clear hlast hl2 hW1
  clear c1 c2 c3 c4 c5 c6 hget hcell hfr hnews hlen h1
  go_enter Try.func141, Try.ntmps141
  go_wp2_with fail
  go_region_law (refine step_append_room rfl (.tmp 22) (.tmp 25) 57 rfl 47 Try.t47 1 Try.underlying57 (by kernel_rfl) (by kernel_rfl) b 0 a cap (by simp [Act.eval, Act.put]) A (n - (a + 1)) (cap - (a + 1)) news (by simp [Act.eval, Act.put]) s1.out hsrc.out s2.out (by omega) s3.out ?_; rw [← hW.out])
  go_wp2
  go_ret
  rw [X1.out, X2.out, hW.out, Nat.zero_add (n - 1)]
  exact ⟨rfl, rfl⟩
end Go.Am
set_option linter.unusedVariables false
set_option linter.unusedSimpArgs false
set_option maxRecDepth 4000
namespace Go.Am
attribute [local irreducible] retQ
open Go.Proofs
theorem c_n {p n : Int} {T : Nat → Nat → Nat → Int} {fo : Nat → Int} : ACalls Try.prog TB 65 [.cptr (algA p n T fo)] (.int .i64 n) [] := by
  refine acalls_of tokTB Try.func65 rfl rfl (Nat.le_of_ble_eq_true rfl) ?_
  apply sr tokTB (by kernel_rfl)
  · intro RR hRR
    refine w_assign (by constructor) ?_
    exact hRR
  apply sr tokTB (by kernel_rfl)
  · intro RR hRR
    refine w_move (by constructor) ?_
    refine w_nilc rfl ?_
    refine w_fac rfl und31 rfl kn2 nz2 (by decide) rfl (by constructor) ?_
    refine w_ldc rfl kn2 (by constructor) (by exact sz2.symm) (by exact ag2.symm) ?_
    refine w_assign (by constructor) ?_
    exact hRR
  refine snd_ret ?_
  exact rt (T := TB) (fun V => by first | exact m_bool rfl | exact m_int rfl)
theorem c_l01In {n lo hi : Int} : ACalls Try.prog TB 84 [.int .i64 n, .int .i64 lo, .int .i64 hi] (.bool (decide (lo ≤ n) && decide (n ≤ hi))) [] := by
  refine acalls_of tokTB Try.func84 rfl rfl (Nat.le_of_ble_eq_true rfl) ?_
  apply sr tokTB (by kernel_rfl)
  · intro RR hRR
    refine w_assign (by constructor) ?_
    exact hRR
  apply srG (env' := (6, .bool (decide (lo ≤ n) && decide (n ≤ hi))) :: (14, .bool (decide (lo ≤ n) && decide (n ≤ hi))) :: (13, .any) :: (12, .any) :: (11, .any) :: (10, _) :: (9, _) :: (8, _) :: (7, _) :: _) tokTB (by kernel_rfl)
  · intro RR hRR
    refine w_move (by constructor) ?_
    refine w_move (by constructor) ?_
    refine w_geq rfl rfl ?_
    refine w_move (by constructor) ?_
    refine w_g rfl rfl (fun hg3 => ?_) (fun hg3 => ?_)
    · skip
      refine w_move (by constructor) ?_
      refine w_g_on rfl rfl hg3 ?_
      refine w_move (by constructor) ?_
      refine w_g_on rfl rfl hg3 ?_
      refine w_leq rfl rfl ?_
      refine w_pick_1 rfl hg3 (by constructor) ?_
      refine w_assign (by constructor) ?_
      try simp only [Int.toNat_natCast] at hg3
      exact hRR _ (EL.cons (.inr (by first | rfl | (simp only [hg3, els]; done) | (simp only [hg3, els]; rfl) | simp [hg3])) (EL.cons (.inr (by first | rfl | (simp only [hg3, els]; done) | (simp only [hg3, els]; rfl) | simp [hg3])) (EL.cons (.inl rfl) (EL.cons (.inl rfl) (EL.cons (.inl rfl) (EL.cons (.inr rfl) (EL.cons (.inr rfl) (EL.cons (.inr rfl) (EL.cons (.inr rfl) (EL.refl _))))))))))
    · have hg3 := eq_false_of_ne_true hg3
      refine w_g_off rfl rfl (by rw [hg3]; decide) ?_
      refine w_g_off rfl rfl (by rw [hg3]; decide) ?_
      refine w_pick_0 rfl hg3 (by constructor) ?_
      refine w_assign (by constructor) ?_
      try simp only [Int.toNat_natCast] at hg3
      exact hRR _ (EL.cons (.inr (by first | rfl | (simp only [hg3, els]; done) | (simp only [hg3, els]; rfl) | simp [hg3])) (EL.cons (.inr (by first | rfl | (simp only [hg3, els]; done) | (simp only [hg3, els]; rfl) | simp [hg3])) (EL.cons (.inl rfl) (EL.cons (.inl rfl) (EL.cons (.inl rfl) (EL.cons (.inr rfl) (EL.cons (.inr rfl) (EL.cons (.inr rfl) (EL.cons (.inr rfl) (EL.refl _))))))))))
  refine snd_ret ?_
  exact rt (T := TB) (fun V => by first | exact m_bool rfl | exact m_int rfl)
theorem c_in {n lo hi : Int} : ACalls Try.prog TB 123 [.int .i64 n, .int .i64 lo, .int .i64 hi] (.bool (decide (lo ≤ n) && decide (n ≤ hi))) [] := by
  refine acalls_of tokTB Try.func123 rfl rfl (Nat.le_of_ble_eq_true rfl) ?_
  apply sr tokTB (by kernel_rfl)
  · intro RR hRR
    refine w_assign (by constructor) ?_
    exact hRR
  apply srG (env' := (6, .bool (decide (lo ≤ n) && decide (n ≤ hi))) :: (14, .bool (decide (lo ≤ n) && decide (n ≤ hi))) :: (13, .any) :: (12, .any) :: (11, .any) :: (10, _) :: (9, _) :: (8, _) :: (7, _) :: _) tokTB (by kernel_rfl)
  · intro RR hRR
    refine w_move (by constructor) ?_
    refine w_move (by constructor) ?_
    refine w_geq rfl rfl ?_
    refine w_move (by constructor) ?_
    refine w_g rfl rfl (fun hg3 => ?_) (fun hg3 => ?_)
    · skip
      refine w_move (by constructor) ?_
      refine w_g_on rfl rfl hg3 ?_
      refine w_move (by constructor) ?_
      refine w_g_on rfl rfl hg3 ?_
      refine w_leq rfl rfl ?_
      refine w_pick_1 rfl hg3 (by constructor) ?_
      refine w_assign (by constructor) ?_
      try simp only [Int.toNat_natCast] at hg3
      exact hRR _ (EL.cons (.inr (by first | rfl | (simp only [hg3, els]; done) | (simp only [hg3, els]; rfl) | simp [hg3])) (EL.cons (.inr (by first | rfl | (simp only [hg3, els]; done) | (simp only [hg3, els]; rfl) | simp [hg3])) (EL.cons (.inl rfl) (EL.cons (.inl rfl) (EL.cons (.inl rfl) (EL.cons (.inr rfl) (EL.cons (.inr rfl) (EL.cons (.inr rfl) (EL.cons (.inr rfl) (EL.refl _))))))))))
    · have hg3 := eq_false_of_ne_true hg3
      refine w_g_off rfl rfl (by rw [hg3]; decide) ?_
      refine w_g_off rfl rfl (by rw [hg3]; decide) ?_
      refine w_pick_0 rfl hg3 (by constructor) ?_
      refine w_assign (by constructor) ?_
      try simp only [Int.toNat_natCast] at hg3
      exact hRR _ (EL.cons (.inr (by first | rfl | (simp only [hg3, els]; done) | (simp only [hg3, els]; rfl) | simp [hg3])) (EL.cons (.inr (by first | rfl | (simp only [hg3, els]; done) | (simp only [hg3, els]; rfl) | simp [hg3])) (EL.cons (.inl rfl) (EL.cons (.inl rfl) (EL.cons (.inl rfl) (EL.cons (.inr rfl) (EL.cons (.inr rfl) (EL.cons (.inr rfl) (EL.cons (.inr rfl) (EL.refl _))))))))))
  refine snd_ret ?_
  exact rt (T := TB) (fun V => by first | exact m_bool rfl | exact m_int rfl)
theorem c_l01Mod {p x : Int} (hp : 0 < p) (hp2 : p < 4294967296) : ACalls Try.prog TB 73 [.int .i64 p, .int .i64 x] (.int .i64 (x % p)) [] := by
  have h1 := tmod_lo x hp
  have h2 := tmod_hi x hp
  refine acalls_of tokTB Try.func73 rfl rfl (Nat.le_of_ble_eq_true rfl) ?_
  apply sr tokTB (by kernel_rfl)
  · intro RR hRR
    refine w_assign (by constructor) ?_
    exact hRR
  apply sr tokTB (by kernel_rfl)
  · intro RR hRR
    refine w_move (by constructor) ?_
    refine w_move (by constructor) ?_
    refine w_rem rfl rfl (by first | assumption | omega) ?_
    refine w_move (by constructor) ?_
    refine y_add rfl rfl ?_
    refine w_move (by constructor) ?_
    refine w_rem rfl rfl (by first | assumption | omega) ?_
    refine w_assign (by constructor) ?_
    exact hRR
  refine snd_ret ?_
  exact rt (T := TB) (fun V => m_int (tmod_add hp))
theorem c_rest {p x : Int} (hp : 0 < p) (hp2 : p < 4294967296) : ACalls Try.prog TB 77 [.int .i64 x, .int .i64 p] (.int .i64 (x % p)) [] := by
  have h1 := tmod_lo x hp
  have h2 := tmod_hi x hp
  refine acalls_of tokTB Try.func77 rfl rfl (Nat.le_of_ble_eq_true rfl) ?_
  apply sr tokTB (by kernel_rfl)
  · intro RR hRR
    refine w_assign (by constructor) ?_
    exact hRR
  apply sr tokTB (by kernel_rfl)
  · intro RR hRR
    refine w_move (by constructor) ?_
    refine w_move (by constructor) ?_
    refine w_rem rfl rfl (by first | assumption | omega) ?_
    refine w_move (by constructor) ?_
    refine y_add rfl rfl ?_
    refine w_move (by constructor) ?_
    refine w_rem rfl rfl (by first | assumption | omega) ?_
    refine w_assign (by constructor) ?_
    exact hRR
  refine snd_ret ?_
  exact rt (T := TB) (fun V => m_int (tmod_add hp))
theorem c_l01Basis {i : Nat} (hi : i < 6) : ACalls Try.prog TB 96 [.int .i64 (i : Int)] (vecA (eF i)) [] := by
  refine acalls_of tokTB Try.func96 rfl rfl (Nat.le_of_ble_eq_true rfl) ?_
  apply sr tokTB (by kernel_rfl)
  · intro RR hRR
    refine w_alloc kn29 rfl zr29 ?_
    exact hRR
  apply sr tokTB (by kernel_rfl)
  · intro RR hRR
    refine w_bld_a kn29 zr29 und29 kn5 (fun _ => (by exact sz5.symm)) trivial rfl (by exact sz5.symm) ?_
    refine w_alloc kn29 rfl zr29 ?_
    refine w_stw rfl (by constructor) kn29 rfl (by exact trivial) (by first | exact trivial | exact ssh_vec | exact ssh_alg | exact ssh_tab | exact ssh_mat | exact ⟨rfl, fun _ => trivial⟩ | exact ⟨rfl, fun _ => by rw [zr29]; exact ssh_vec⟩) (by exact sz29.symm) ?_
    exact hRR
  apply sr tokTB (by kernel_rfl)
  · intro RR hRR
    refine w_move (by constructor) ?_
    refine w_iap rfl rfl und29 kn5 rfl (by exact sz5.symm) rfl ?_ ?_
    · exact ⟨by omega, by omega⟩
    first | refine w_stw rfl (by constructor) kn5 rfl (by exact trivial) (by first | exact trivial | exact ssh_vec | exact ssh_alg | exact ssh_tab | exact ssh_mat | exact ⟨rfl, fun _ => trivial⟩ | exact ⟨rfl, fun _ => by rw [zr29]; exact ssh_vec⟩) (by exact sz5.symm) ?_ | refine w_sti rfl rfl kn5 rfl (by exact trivial) (by exact sz5.symm) ?_ | refine w_store rfl (HV.eq (by constructor)) kn5 rfl (by exact trivial) (by first | exact trivial | exact ssh_vec | exact ssh_alg | exact ssh_tab | exact ssh_mat | exact ⟨rfl, fun _ => trivial⟩ | exact ⟨rfl, fun _ => by rw [zr29]; exact ssh_vec⟩) (by exact sz5.symm) (put_in (by first | exact put_mat | exact put_tab | exact put_alg0 | exact put_alg1 | exact put_alg2 | exact put_alg3 | exact put_alg3i | exact put_alg2ij | exact put_alg2ijk | exact put_mat2 | exact put_tab2 | exact put_tab3)) ?_ | refine w_store rfl (HV.eq (by constructor)) kn5 rfl (by exact trivial) (by exact trivial) (by exact sz5.symm) rfl ?_
    exact hRR
  apply sr tokTB (by kernel_rfl)
  · intro RR hRR
    refine w_ldp rfl kn29 rfl (by constructor) (by exact sz29.symm) (by exact ag29.symm) ?_
    refine w_stw rfl (by constructor) kn29 rfl (by exact trivial) (by first | exact trivial | exact ssh_vec | exact ssh_alg | exact ssh_tab | exact ssh_mat | exact ⟨rfl, fun _ => trivial⟩ | exact ⟨rfl, fun _ => by rw [zr29]; exact ssh_vec⟩) (by exact sz29.symm) ?_
    exact hRR
  refine snd_ret ?_
  exact rt_c (T := TB) rfl kn29 rfl sz29.symm ag29.symm (fun V => m_vec (fun j hj => rfl))
theorem c_basis {i : Nat} (hi : i < 6) : ACalls Try.prog TB 115 [.int .i64 (i : Int)] (vecA (eF i)) [] := by
  refine acalls_of tokTB Try.func115 rfl rfl (Nat.le_of_ble_eq_true rfl) ?_
  apply sr tokTB (by kernel_rfl)
  · intro RR hRR
    refine w_alloc kn29 rfl zr29 ?_
    exact hRR
  apply sr tokTB (by kernel_rfl)
  · intro RR hRR
    refine w_bld_a kn29 zr29 und29 kn5 (fun _ => (by exact sz5.symm)) trivial rfl (by exact sz5.symm) ?_
    refine w_alloc kn29 rfl zr29 ?_
    refine w_stw rfl (by constructor) kn29 rfl (by exact trivial) (by first | exact trivial | exact ssh_vec | exact ssh_alg | exact ssh_tab | exact ssh_mat | exact ⟨rfl, fun _ => trivial⟩ | exact ⟨rfl, fun _ => by rw [zr29]; exact ssh_vec⟩) (by exact sz29.symm) ?_
    exact hRR
  apply sr tokTB (by kernel_rfl)
  · intro RR hRR
    refine w_move (by constructor) ?_
    refine w_iap rfl rfl und29 kn5 rfl (by exact sz5.symm) rfl ?_ ?_
    · exact ⟨by omega, by omega⟩
    first | refine w_stw rfl (by constructor) kn5 rfl (by exact trivial) (by first | exact trivial | exact ssh_vec | exact ssh_alg | exact ssh_tab | exact ssh_mat | exact ⟨rfl, fun _ => trivial⟩ | exact ⟨rfl, fun _ => by rw [zr29]; exact ssh_vec⟩) (by exact sz5.symm) ?_ | refine w_sti rfl rfl kn5 rfl (by exact trivial) (by exact sz5.symm) ?_ | refine w_store rfl (HV.eq (by constructor)) kn5 rfl (by exact trivial) (by first | exact trivial | exact ssh_vec | exact ssh_alg | exact ssh_tab | exact ssh_mat | exact ⟨rfl, fun _ => trivial⟩ | exact ⟨rfl, fun _ => by rw [zr29]; exact ssh_vec⟩) (by exact sz5.symm) (put_in (by first | exact put_mat | exact put_tab | exact put_alg0 | exact put_alg1 | exact put_alg2 | exact put_alg3 | exact put_alg3i | exact put_alg2ij | exact put_alg2ijk | exact put_mat2 | exact put_tab2 | exact put_tab3)) ?_ | refine w_store rfl (HV.eq (by constructor)) kn5 rfl (by exact trivial) (by exact trivial) (by exact sz5.symm) rfl ?_
    exact hRR
  apply sr tokTB (by kernel_rfl)
  · intro RR hRR
    refine w_ldp rfl kn29 rfl (by constructor) (by exact sz29.symm) (by exact ag29.symm) ?_
    refine w_stw rfl (by constructor) kn29 rfl (by exact trivial) (by first | exact trivial | exact ssh_vec | exact ssh_alg | exact ssh_tab | exact ssh_mat | exact ⟨rfl, fun _ => trivial⟩ | exact ⟨rfl, fun _ => by rw [zr29]; exact ssh_vec⟩) (by exact sz29.symm) ?_
    exact hRR
  refine snd_ret ?_
  exact rt_c (T := TB) rfl kn29 rfl sz29.symm ag29.symm (fun V => m_vec (fun j hj => rfl))
end Go.Am
set_option linter.unusedVariables false
set_option linter.unusedSimpArgs false
set_option maxRecDepth 4000
namespace Go.Am
attribute [local irreducible] retQ
open Go.Proofs
theorem c_l01Small {p n : Int} {v : Nat → Int} (hv : B8 v) : ACalls Try.prog TB 120 [.int .i64 p, .int .i64 n, vecA v] (.bool (decide (smP p n v))) [] := by
  refine acalls_of tokTB Try.func120 rfl rfl (Nat.le_of_ble_eq_true rfl) ?_
  apply sr tokTB (by kernel_rfl)
  · intro RR hRR
    refine w_boxc (HV.eq (by constructor)) (by exact trivial) ?_
    refine w_assign (by constructor) ?_
    exact hRR
  refine snd_seq ?_
  apply sr tokTB (by kernel_rfl)
  · intro RR hRR
    refine w_assign (by constructor) ?_
    exact hRR
  refine snd_block ?_
  refine snd_loop (S := Nat) (fun i => ([(0, .int .i64 p), (1, .int .i64 n), (5, .cptr (vecA v)), (7, .int .i64 (i : Int))], [])) (fun i => i ≤ 6 ∧ ∀ j, j < i → smG p n v j) (fun i => 6 - i) (0) ρ0 ?_ ?_ ?_
  · exact ⟨⟨(by first | exact m_int rfl | exact m_int (by omega) | exact m_int (by simp; done) | (exact m_int (by simp; omega))), (by first | exact m_int rfl | exact m_int (by omega) | exact m_int (by simp; done) | (exact m_int (by simp; omega))), (m_cvec (fun _ _ => rfl)), (by first | exact m_int rfl | exact m_int (by omega) | exact m_int (by simp; done) | (exact m_int (by simp; omega))), trivial⟩, trivial, trivial⟩
  · exact ⟨Nat.zero_le _, fun j hj => by omega⟩
  intro i hi0
  refine sq (env2 := [(0, .int .i64 p), (1, .int .i64 n), (5, .cptr (vecA v)), (7, .int .i64 (i : Int))]) (ol2 := []) rfl rfl ?_
  obtain ⟨hi1, hi2⟩ := hi0
  refine snd_seq ?_
  apply sr tokTB (by kernel_rfl)
  · intro RR hRR
    refine w_move (by constructor) ?_
    refine w_lss rfl rfl ?_
    exact hRR
  refine snd_cond _ rfl (fun hc9 => ?_) (fun hc9 => ?_)
  · try simp only [hcs] at hc9
    refine snd_skip ?_
    refine snd_seq ?_
    refine snd_block ?_
    apply srG (env' := (28, .bool (decide (p ≤ v i) || (decide (n ≤ (i : Int)) && decide (v i ≠ 0)))) :: (27, .any) :: (26, .any) :: (25, .any) :: (24, .any) :: (23, .any) :: (22, .any) :: (21, .any) :: (20, .any) :: (19, .any) :: (18, _) :: (17, _) :: (16, _) :: (15, _) :: (14, _) :: (13, _) :: (12, _) :: _) tokTB (by kernel_rfl)
    · intro RR hRR
      refine w_move (by constructor) ?_
      refine w_iac rfl rfl und29 kn5 (by exact sz5.symm) ?_ rfl ?_
      · exact ⟨by omega, by omega⟩
      first | refine w_ldc rfl kn5 (by constructor) (by exact sz5.symm) (by exact ag5.symm) ?_ | refine w_ldp rfl kn5 rfl (by constructor) (by exact sz5.symm) (by exact ag5.symm) ?_
      refine y_conv rfl und5 und2 ?_
      refine w_move (by constructor) ?_
      refine w_geq rfl rfl ?_
      refine w_move (by constructor) ?_
      refine w_g rfl rfl (fun hg6 => ?_) (fun hg6 => ?_)
      · skip
        refine w_move (by constructor) ?_
        refine w_g_on rfl rfl hg6 ?_
        refine w_move (by constructor) ?_
        refine w_g_on rfl rfl hg6 ?_
        refine w_geq rfl rfl ?_
        refine w_g_on rfl rfl hg6 ?_
        refine w_move (by constructor) ?_
        refine w_g rfl rfl (fun hg10 => ?_) (fun hg10 => ?_)
        · skip
          refine w_move (by constructor) ?_
          refine w_g_on rfl rfl hg10 ?_
          refine w_iac rfl rfl und29 kn5 (by exact sz5.symm) ?_ rfl ?_
          · exact ⟨by omega, by omega⟩
          refine w_g_on rfl rfl hg10 ?_
          first | refine w_ldc rfl kn5 (by constructor) (by exact sz5.symm) (by exact ag5.symm) ?_ | refine w_ldp rfl kn5 rfl (by constructor) (by exact sz5.symm) (by exact ag5.symm) ?_
          refine w_g_on rfl rfl hg10 ?_
          refine w_neq rfl rfl ?_
          refine w_g_on rfl rfl hg6 ?_
          refine w_pick_1 rfl hg10 (by constructor) ?_
          refine w_pick_0 rfl hg6 (by constructor) ?_
          try simp only [Int.toNat_natCast] at hg6 hg10
          exact hRR _ (EL.cons (.inr (by first | rfl | (simp only [hg6, hg10, els]; done) | (simp only [hg6, hg10, els]; rfl) | simp [hg6, hg10])) (EL.cons (.inl rfl) (EL.cons (.inl rfl) (EL.cons (.inl rfl) (EL.cons (.inl rfl) (EL.cons (.inl rfl) (EL.cons (.inl rfl) (EL.cons (.inl rfl) (EL.cons (.inl rfl) (EL.cons (.inl rfl) (EL.cons (.inr rfl) (EL.cons (.inr rfl) (EL.cons (.inr rfl) (EL.cons (.inr rfl) (EL.cons (.inr rfl) (EL.cons (.inr rfl) (EL.cons (.inr rfl) (EL.refl _))))))))))))))))))
        · have hg10 := eq_false_of_ne_true hg10
          refine w_g_off rfl rfl (by rw [hg10]; decide) ?_
          refine w_g_off rfl rfl (by rw [hg10]; decide) ?_
          refine w_g_off rfl rfl (by rw [hg10]; decide) ?_
          refine w_g_on rfl rfl hg6 ?_
          refine w_pick_0 rfl hg10 (by constructor) ?_
          refine w_pick_0 rfl hg6 (by constructor) ?_
          try simp only [Int.toNat_natCast] at hg6 hg10
          exact hRR _ (EL.cons (.inr (by first | rfl | (simp only [hg6, hg10, els]; done) | (simp only [hg6, hg10, els]; rfl) | simp [hg6, hg10])) (EL.cons (.inl rfl) (EL.cons (.inl rfl) (EL.cons (.inl rfl) (EL.cons (.inl rfl) (EL.cons (.inl rfl) (EL.cons (.inl rfl) (EL.cons (.inl rfl) (EL.cons (.inl rfl) (EL.cons (.inl rfl) (EL.cons (.inr rfl) (EL.cons (.inr rfl) (EL.cons (.inr rfl) (EL.cons (.inr rfl) (EL.cons (.inr rfl) (EL.cons (.inr rfl) (EL.cons (.inr rfl) (EL.refl _))))))))))))))))))
      · have hg6 := eq_true_of_ne_false hg6
        refine w_g_off rfl rfl (by rw [hg6]; decide) ?_
        refine w_g_off rfl rfl (by rw [hg6]; decide) ?_
        refine w_g_off rfl rfl (by rw [hg6]; decide) ?_
        refine w_g_und rfl rfl ?_
        refine w_g_und rfl rfl ?_
        refine w_g_und rfl rfl ?_
        refine w_g_und rfl rfl ?_
        refine w_g_off rfl rfl (by rw [hg6]; decide) ?_
        refine w_pick_1 rfl hg6 (by constructor) ?_
        try simp only [Int.toNat_natCast] at hg6
        exact hRR _ (EL.cons (.inr (by first | rfl | (simp only [hg6, els]; done) | (simp only [hg6, els]; rfl) | simp [hg6])) (EL.cons (.inl rfl) (EL.cons (.inl rfl) (EL.cons (.inl rfl) (EL.cons (.inl rfl) (EL.cons (.inl rfl) (EL.cons (.inl rfl) (EL.cons (.inl rfl) (EL.cons (.inl rfl) (EL.cons (.inl rfl) (EL.cons (.inr rfl) (EL.cons (.inr rfl) (EL.cons (.inr rfl) (EL.cons (.inr rfl) (EL.cons (.inr rfl) (EL.cons (.inr rfl) (EL.cons (.inr rfl) (EL.refl _))))))))))))))))))
    refine snd_cond _ rfl (fun hc28 => ?_) (fun hc28 => ?_)
    · skip
      apply sr tokTB (by kernel_rfl)
      · intro RR hRR
        refine w_assign (by constructor) ?_
        exact hRR
      refine snd_ret ?_
      exact rt (T := TB) (fun V => m_bool (by symm; rw [decide_eq_false_iff_not]; intro h; rw [smG_iff.1 (h i (by omega))] at hc28; cases hc28))
    · skip
      refine snd_skip ?_
      apply lr tokTB (by kernel_rfl)
      · intro RR hRR
        refine w_move (by constructor) ?_
        refine y_add rfl rfl ?_
        refine w_assign (by constructor) ?_
        exact hRR
      refine ⟨i + 1, ρ0, ?_, ⟨by omega, all_step hi2 (smG_iff.2 hc28)⟩, (by dsimp only; omega)⟩
      exact ⟨⟨(by first | exact m_int rfl | exact m_int (by omega) | exact m_int (by simp; done) | (exact m_int (by simp; omega))), (by first | exact m_int rfl | exact m_int (by omega) | exact m_int (by simp; done) | (exact m_int (by simp; omega))), (m_cvec (fun _ _ => rfl)), (by first | exact m_int rfl | exact m_int (by omega) | exact m_int (by simp; done) | (exact m_int (by simp; omega))), trivial⟩, trivial, trivial⟩
  · try simp only [hcs] at hc9
    refine snd_exit ?_
    apply sr tokTB (by kernel_rfl)
    · intro RR hRR
      refine w_assign (by constructor) ?_
      exact hRR
    refine snd_ret ?_
    exact rt (T := TB) (fun V => m_bool (by symm; rw [decide_eq_true_eq]; exact fun j hj => hi2 j (by omega)))
theorem c_isVector {p n : Int} {v : Nat → Int} (hv : B8 v) : ACalls Try.prog TB 66 [vecA v, .int .i64 n, .int .i64 p] (.bool (decide (smP p n v))) [] := by
  refine acalls_of tokTB Try.func66 rfl rfl (Nat.le_of_ble_eq_true rfl) ?_
  apply sr tokTB (by kernel_rfl)
  · intro RR hRR
    refine w_boxc (HV.eq (by constructor)) (by exact trivial) ?_
    refine w_assign (by constructor) ?_
    exact hRR
  refine snd_seq ?_
  apply sr tokTB (by kernel_rfl)
  · intro RR hRR
    refine w_ldc rfl kn29 (by constructor) (by exact sz29.symm) (by exact ag29.symm) ?_
    refine w_move (by constructor) ?_
    exact hRR
  refine snd_block ?_
  refine snd_loop (S := Nat) (fun i => ([(1, .int .i64 n), (2, .int .i64 p), (9, vecA v), (10, .int .i64 (i : Int))], [])) (fun i => i ≤ 6 ∧ ∀ j, j < i → smG p n v j) (fun i => 6 - i) (0) ρ0 ?_ ?_ ?_
  · exact ⟨⟨(by first | exact m_int rfl | exact m_int (by omega) | exact m_int (by simp; done) | (exact m_int (by simp; omega))), (by first | exact m_int rfl | exact m_int (by omega) | exact m_int (by simp; done) | (exact m_int (by simp; omega))), (m_vec (fun _ _ => rfl)), (by first | exact m_int rfl | exact m_int (by omega) | exact m_int (by simp; done) | (exact m_int (by simp; omega))), trivial⟩, trivial, trivial⟩
  · exact ⟨Nat.zero_le _, fun j hj => by omega⟩
  intro i hi0
  refine sq (env2 := [(1, .int .i64 n), (2, .int .i64 p), (9, vecA v), (10, .int .i64 (i : Int))]) (ol2 := []) rfl rfl ?_
  obtain ⟨hi1, hi2⟩ := hi0
  apply sr tokTB (by kernel_rfl)
  · intro RR hRR
    refine w_lss rfl rfl ?_
    exact hRR
  refine snd_seq ?_
  refine snd_cond _ rfl (fun hc11 => ?_) (fun hc11 => ?_)
  · try simp only [hcs] at hc11
    refine snd_skip ?_
    refine snd_seq ?_
    refine snd_block ?_
    apply sr tokTB (by kernel_rfl)
    · intro RR hRR
      refine w_move (by constructor) ?_
      refine w_ixa rfl rfl und29 kn5 (by exact sz5.symm) ?_ (by constructor) (by exact ag5.symm) ?_
      · exact ⟨by omega, by omega⟩
      refine w_assign (by constructor) ?_
      refine w_assign (by constructor) ?_
      exact hRR
    apply srG (env' := (26, .bool (decide (p ≤ v i) || (decide (n ≤ (i : Int)) && decide (v i ≠ 0)))) :: (25, .any) :: (24, .any) :: (23, .any) :: (22, .any) :: (21, .any) :: (20, .any) :: (19, .any) :: (18, _) :: (17, _) :: (16, _) :: (15, _) :: (14, _) :: _) tokTB (by kernel_rfl)
    · intro RR hRR
      refine w_move (by constructor) ?_
      refine y_conv rfl und5 und2 ?_
      refine w_move (by constructor) ?_
      refine w_geq rfl rfl ?_
      refine w_move (by constructor) ?_
      refine w_g rfl rfl (fun hg4 => ?_) (fun hg4 => ?_)
      · skip
        refine w_move (by constructor) ?_
        refine w_g_on rfl rfl hg4 ?_
        refine w_move (by constructor) ?_
        refine w_g_on rfl rfl hg4 ?_
        refine w_geq rfl rfl ?_
        refine w_g_on rfl rfl hg4 ?_
        refine w_move (by constructor) ?_
        refine w_g rfl rfl (fun hg8 => ?_) (fun hg8 => ?_)
        · skip
          refine w_move (by constructor) ?_
          refine w_g_on rfl rfl hg8 ?_
          refine w_neq rfl rfl ?_
          refine w_g_on rfl rfl hg4 ?_
          refine w_pick_1 rfl hg8 (by constructor) ?_
          refine w_pick_0 rfl hg4 (by constructor) ?_
          try simp only [Int.toNat_natCast] at hg4 hg8
          exact hRR _ (EL.cons (.inr (by first | rfl | (simp only [hg4, hg8, els]; done) | (simp only [hg4, hg8, els]; rfl) | simp [hg4, hg8])) (EL.cons (.inl rfl) (EL.cons (.inl rfl) (EL.cons (.inl rfl) (EL.cons (.inl rfl) (EL.cons (.inl rfl) (EL.cons (.inl rfl) (EL.cons (.inl rfl) (EL.cons (.inr rfl) (EL.cons (.inr rfl) (EL.cons (.inr rfl) (EL.cons (.inr rfl) (EL.cons (.inr rfl) (EL.refl _))))))))))))))
        · have hg8 := eq_false_of_ne_true hg8
          refine w_g_off rfl rfl (by rw [hg8]; decide) ?_
          refine w_g_on rfl rfl hg4 ?_
          refine w_pick_0 rfl hg8 (by constructor) ?_
          refine w_pick_0 rfl hg4 (by constructor) ?_
          try simp only [Int.toNat_natCast] at hg4 hg8
          exact hRR _ (EL.cons (.inr (by first | rfl | (simp only [hg4, hg8, els]; done) | (simp only [hg4, hg8, els]; rfl) | simp [hg4, hg8])) (EL.cons (.inl rfl) (EL.cons (.inl rfl) (EL.cons (.inl rfl) (EL.cons (.inl rfl) (EL.cons (.inl rfl) (EL.cons (.inl rfl) (EL.cons (.inl rfl) (EL.cons (.inr rfl) (EL.cons (.inr rfl) (EL.cons (.inr rfl) (EL.cons (.inr rfl) (EL.cons (.inr rfl) (EL.refl _))))))))))))))
      · have hg4 := eq_true_of_ne_false hg4
        refine w_g_off rfl rfl (by rw [hg4]; decide) ?_
        refine w_g_off rfl rfl (by rw [hg4]; decide) ?_
        refine w_g_off rfl rfl (by rw [hg4]; decide) ?_
        refine w_g_und rfl rfl ?_
        refine w_g_und rfl rfl ?_
        refine w_g_off rfl rfl (by rw [hg4]; decide) ?_
        refine w_pick_1 rfl hg4 (by constructor) ?_
        try simp only [Int.toNat_natCast] at hg4
        exact hRR _ (EL.cons (.inr (by first | rfl | (simp only [hg4, els]; done) | (simp only [hg4, els]; rfl) | simp [hg4])) (EL.cons (.inl rfl) (EL.cons (.inl rfl) (EL.cons (.inl rfl) (EL.cons (.inl rfl) (EL.cons (.inl rfl) (EL.cons (.inl rfl) (EL.cons (.inl rfl) (EL.cons (.inr rfl) (EL.cons (.inr rfl) (EL.cons (.inr rfl) (EL.cons (.inr rfl) (EL.cons (.inr rfl) (EL.refl _))))))))))))))
    refine snd_cond _ rfl (fun hc26 => ?_) (fun hc26 => ?_)
    · skip
      apply sr tokTB (by kernel_rfl)
      · intro RR hRR
        refine w_assign (by constructor) ?_
        exact hRR
      refine snd_ret ?_
      exact rt (T := TB) (fun V => m_bool (by symm; rw [decide_eq_false_iff_not]; intro h; rw [smG_iff.1 (h i (by omega))] at hc26; cases hc26))
    · skip
      refine snd_skip ?_
      apply lr tokTB (by kernel_rfl)
      · intro RR hRR
        refine y_add rfl rfl ?_
        refine w_move (by constructor) ?_
        exact hRR
      refine ⟨i + 1, ρ0, ?_, ⟨by omega, all_step hi2 (smG_iff.2 hc26)⟩, (by dsimp only; omega)⟩
      exact ⟨⟨(by first | exact m_int rfl | exact m_int (by omega) | exact m_int (by simp; done) | (exact m_int (by simp; omega))), (by first | exact m_int rfl | exact m_int (by omega) | exact m_int (by simp; done) | (exact m_int (by simp; omega))), (m_vec (fun _ _ => rfl)), (by first | exact m_int rfl | exact m_int (by omega) | exact m_int (by simp; done) | (exact m_int (by simp; omega))), trivial⟩, trivial, trivial⟩
  · try simp only [hcs] at hc11
    refine snd_exit ?_
    apply sr tokTB (by kernel_rfl)
    · intro RR hRR
      refine w_assign (by constructor) ?_
      exact hRR
    refine snd_ret ?_
    exact rt (T := TB) (fun V => m_bool (by symm; rw [decide_eq_true_eq]; exact fun j hj => hi2 j (by omega)))
end Go.Am
set_option linter.unusedVariables false
set_option linter.unusedSimpArgs false
set_option maxRecDepth 4000
namespace Go.Am
attribute [local irreducible] retQ
open Go.Proofs
theorem c_l01Times {p : Int} {n : Nat} {T : Nat → Nat → Nat → Int} {fo u v : Nat → Int} (hp : 0 < p) (hp2 : p < 256) (hn : n ≤ 6) (hT : B8T T) (hu : B8 u) (hv : B8 v) : ACalls Try.prog TB 74 [algA p (n : Int) T fo, vecA u, vecA v] (vecA (timesF p n T u v)) [] := by
  refine acalls_of tokTB Try.func74 rfl rfl (Nat.le_of_ble_eq_true rfl) ?_
  apply sr tokTB (by kernel_rfl)
  · intro RR hRR
    refine w_boxc (HV.eq (by constructor)) (by exact trivial) ?_
    refine w_boxc (HV.eq (by constructor)) (by exact trivial) ?_
    refine w_boxc (HV.eq (by constructor)) (by exact trivial) ?_
    refine w_alloc kn29 rfl zr29 ?_
    exact hRR
  apply sr tokTB (by kernel_rfl)
  · intro RR hRR
    refine w_bld_a kn29 zr29 und29 kn5 (fun _ => (by exact sz5.symm)) trivial rfl (by exact sz5.symm) ?_
    refine w_alloc kn29 rfl zr29 ?_
    refine w_stw rfl (by constructor) kn29 rfl (by exact trivial) (by first | exact trivial | exact ssh_vec | exact ssh_alg | exact ssh_tab | exact ssh_mat | exact ⟨rfl, fun _ => trivial⟩ | exact ⟨rfl, fun _ => by rw [zr29]; exact ssh_vec⟩) (by exact sz29.symm) ?_
    exact hRR
  refine snd_seq ?_
  apply sr tokTB (by kernel_rfl)
  · intro RR hRR
    refine w_assign (by constructor) ?_
    exact hRR
  refine snd_block ?_
  refine snd_loop (S := Nat) (fun k => ([(3, .cptr (algA p (n : Int) T fo)), (4, .cptr (vecA u)), (5, .cptr (vecA v)), (6, .ptr 6 0 [] 0 (vecA (fun _ => 0))), (7, .ptr 7 0 [] 0 (vecA (fun _ => 0))), (8, .int .i64 (k : Int))], [(6, .one (vecA (fun _ => 0)) (vecA (fun _ => 0))), (7, .one (vecA (fun _ => 0)) (vecA (cutF (timesF p n T u v) k)))])) (fun k => k ≤ n) (fun k => n - k) (0) ρ0 ?_ ?_ ?_
  · exact ⟨⟨m_calg, (m_cvec (fun _ _ => rfl)), (m_cvec (fun _ _ => rfl)), ⟨rfl, rfl, rfl, rfl, rfl⟩, ⟨rfl, rfl, rfl, rfl, rfl⟩, (by first | exact m_int rfl | exact m_int (by omega) | exact m_int (by simp; done) | (exact m_int (by simp; omega))), trivial⟩, ⟨⟨rfl, (by first | exact trivial | exact ssh_vec | exact ssh_alg | exact ssh_tab | exact ssh_mat | exact ⟨rfl, fun _ => trivial⟩ | exact ⟨rfl, fun _ => by rw [zr29]; exact ssh_vec⟩), (by exact mt_vec (fun _ _ => rfl))⟩, ⟨rfl, (by first | exact trivial | exact ssh_vec | exact ssh_alg | exact ssh_tab | exact ssh_mat | exact ⟨rfl, fun _ => trivial⟩ | exact ⟨rfl, fun _ => by rw [zr29]; exact ssh_vec⟩), (by exact mt_vec (fun j _ => rfl))⟩, trivial⟩, ⟨⟨(fun h => by first | exact ⟨rfl, rfl⟩ | exact absurd h (by decide)), (fun h => by first | exact ⟨rfl, rfl⟩ | exact absurd h (by decide)), trivial⟩, ⟨(fun h => by first | exact ⟨rfl, rfl⟩ | exact absurd h (by decide)), (fun h => by first | exact ⟨rfl, rfl⟩ | exact absurd h (by decide)), trivial⟩, trivial⟩⟩
  · exact Nat.zero_le _
  intro k hi0
  refine sq (env2 := [(3, .cptr (algA p (n : Int) T fo)), (4, .cptr (vecA u)), (5, .cptr (vecA v)), (6, .ptr 6 0 [] 0 (vecA (fun _ => 0))), (7, .ptr 7 0 [] 0 (vecA (fun _ => 0))), (8, .int .i64 (k : Int))]) (ol2 := [(6, .one (vecA (fun _ => 0)) (vecA (fun _ => 0))), (7, .one (vecA (fun _ => 0)) (vecA (cutF (timesF p n T u v) k)))]) rfl rfl ?_
  refine snd_seq ?_
  apply sr tokTB (by kernel_rfl)
  · intro RR hRR
    refine w_move (by constructor) ?_
    refine w_fac rfl und31 rfl kn2 nz2 (by decide) rfl (by constructor) ?_
    refine w_ldc rfl kn2 (by constructor) (by exact sz2.symm) (by exact ag2.symm) ?_
    refine w_lss rfl rfl ?_
    exact hRR
  refine snd_cond _ rfl (fun hc16 => ?_) (fun hc16 => ?_)
  · try simp only [hcs] at hc16
    refine snd_skip ?_
    refine snd_seq ?_
    refine snd_block ?_
    apply sr tokTB (by kernel_rfl)
    · intro RR hRR
      refine w_assign (by constructor) ?_
      exact hRR
    refine snd_seq ?_
    apply sr tokTB (by kernel_rfl)
    · intro RR hRR
      refine w_assign (by constructor) ?_
      exact hRR
    refine snd_block ?_
    refine snd_loop (S := Nat) (fun i => ([(3, .cptr (algA p (n : Int) T fo)), (4, .cptr (vecA u)), (5, .cptr (vecA v)), (6, .ptr 6 0 [] 0 (vecA (fun _ => 0))), (7, .ptr 7 0 [] 0 (vecA (fun _ => 0))), (8, .int .i64 (k : Int)), (9, .int .i64 (sumZ (rowS T u v n k) i)), (10, .int .i64 (i : Int))], [(6, .one (vecA (fun _ => 0)) (vecA (fun _ => 0))), (7, .one (vecA (fun _ => 0)) (vecA (cutF (timesF p n T u v) k)))])) (fun i => i ≤ n) (fun i => n - i) (0) ρ0 ?_ ?_ ?_
    · exact ⟨⟨m_calg, (m_cvec (fun _ _ => rfl)), (m_cvec (fun _ _ => rfl)), ⟨rfl, rfl, rfl, rfl, rfl⟩, ⟨rfl, rfl, rfl, rfl, rfl⟩, (by first | exact m_int rfl | exact m_int (by omega) | exact m_int (by simp; done) | (exact m_int (by simp; omega))), (by first | exact m_int rfl | exact m_int (by omega) | exact m_int (by simp; done) | (exact m_int (by simp; omega))), (by first | exact m_int rfl | exact m_int (by omega) | exact m_int (by simp; done) | (exact m_int (by simp; omega))), trivial⟩, ⟨⟨rfl, (by first | exact trivial | exact ssh_vec | exact ssh_alg | exact ssh_tab | exact ssh_mat | exact ⟨rfl, fun _ => trivial⟩ | exact ⟨rfl, fun _ => by rw [zr29]; exact ssh_vec⟩), (by exact mt_vec (fun _ _ => rfl))⟩, ⟨rfl, (by first | exact trivial | exact ssh_vec | exact ssh_alg | exact ssh_tab | exact ssh_mat | exact ⟨rfl, fun _ => trivial⟩ | exact ⟨rfl, fun _ => by rw [zr29]; exact ssh_vec⟩), (by exact mt_vec (fun _ _ => rfl))⟩, trivial⟩, ⟨⟨(fun h => by first | exact ⟨rfl, rfl⟩ | exact absurd h (by decide)), (fun h => by first | exact ⟨rfl, rfl⟩ | exact absurd h (by decide)), trivial⟩, ⟨(fun h => by first | exact ⟨rfl, rfl⟩ | exact absurd h (by decide)), (fun h => by first | exact ⟨rfl, rfl⟩ | exact absurd h (by decide)), trivial⟩, trivial⟩⟩
    · exact Nat.zero_le _
    intro i hi2
    refine sq (env2 := [(3, .cptr (algA p (n : Int) T fo)), (4, .cptr (vecA u)), (5, .cptr (vecA v)), (6, .ptr 6 0 [] 0 (vecA (fun _ => 0))), (7, .ptr 7 0 [] 0 (vecA (fun _ => 0))), (8, .int .i64 (k : Int)), (9, .int .i64 (sumZ (rowS T u v n k) i)), (10, .int .i64 (i : Int))]) (ol2 := [(6, .one (vecA (fun _ => 0)) (vecA (fun _ => 0))), (7, .one (vecA (fun _ => 0)) (vecA (cutF (timesF p n T u v) k)))]) rfl rfl ?_
    refine snd_seq ?_
    apply sr tokTB (by kernel_rfl)
    · intro RR hRR
      refine w_move (by constructor) ?_
      refine w_fac rfl und31 rfl kn2 nz2 (by decide) rfl (by constructor) ?_
      refine w_ldc rfl kn2 (by constructor) (by exact sz2.symm) (by exact ag2.symm) ?_
      refine w_lss rfl rfl ?_
      exact hRR
    refine snd_cond _ rfl (fun hc22 => ?_) (fun hc22 => ?_)
    · try simp only [hcs] at hc22
      refine snd_skip ?_
      refine snd_seq ?_
      refine snd_block ?_
      apply sr tokTB (by kernel_rfl)
      · intro RR hRR
        refine w_assign (by constructor) ?_
        exact hRR
      refine snd_block ?_
      refine snd_loop (S := Nat) (fun j => ([(3, .cptr (algA p (n : Int) T fo)), (4, .cptr (vecA u)), (5, .cptr (vecA v)), (6, .ptr 6 0 [] 0 (vecA (fun _ => 0))), (7, .ptr 7 0 [] 0 (vecA (fun _ => 0))), (8, .int .i64 (k : Int)), (9, .int .i64 (sumZ (rowS T u v n k) i + sumZ (tm T u v k i) j)), (10, .int .i64 (i : Int)), (11, .int .i64 (j : Int))], [(6, .one (vecA (fun _ => 0)) (vecA (fun _ => 0))), (7, .one (vecA (fun _ => 0)) (vecA (cutF (timesF p n T u v) k)))])) (fun j => j ≤ n) (fun j => n - j) (0) ρ0 ?_ ?_ ?_
      · exact ⟨⟨m_calg, (m_cvec (fun _ _ => rfl)), (m_cvec (fun _ _ => rfl)), ⟨rfl, rfl, rfl, rfl, rfl⟩, ⟨rfl, rfl, rfl, rfl, rfl⟩, (by first | exact m_int rfl | exact m_int (by omega) | exact m_int (by simp; done) | (exact m_int (by simp; omega))), (by exact m_int (by simp [sumZ])), (by first | exact m_int rfl | exact m_int (by omega) | exact m_int (by simp; done) | (exact m_int (by simp; omega))), (by first | exact m_int rfl | exact m_int (by omega) | exact m_int (by simp; done) | (exact m_int (by simp; omega))), trivial⟩, ⟨⟨rfl, (by first | exact trivial | exact ssh_vec | exact ssh_alg | exact ssh_tab | exact ssh_mat | exact ⟨rfl, fun _ => trivial⟩ | exact ⟨rfl, fun _ => by rw [zr29]; exact ssh_vec⟩), (by exact mt_vec (fun _ _ => rfl))⟩, ⟨rfl, (by first | exact trivial | exact ssh_vec | exact ssh_alg | exact ssh_tab | exact ssh_mat | exact ⟨rfl, fun _ => trivial⟩ | exact ⟨rfl, fun _ => by rw [zr29]; exact ssh_vec⟩), (by exact mt_vec (fun _ _ => rfl))⟩, trivial⟩, ⟨⟨(fun h => by first | exact ⟨rfl, rfl⟩ | exact absurd h (by decide)), (fun h => by first | exact ⟨rfl, rfl⟩ | exact absurd h (by decide)), trivial⟩, ⟨(fun h => by first | exact ⟨rfl, rfl⟩ | exact absurd h (by decide)), (fun h => by first | exact ⟨rfl, rfl⟩ | exact absurd h (by decide)), trivial⟩, trivial⟩⟩
      · exact Nat.zero_le _
      intro j hi4
      refine sq (env2 := [(3, .cptr (algA p (n : Int) T fo)), (4, .cptr (vecA u)), (5, .cptr (vecA v)), (6, .ptr 6 0 [] 0 (vecA (fun _ => 0))), (7, .ptr 7 0 [] 0 (vecA (fun _ => 0))), (8, .int .i64 (k : Int)), (9, .int .i64 (sumZ (rowS T u v n k) i + sumZ (tm T u v k i) j)), (10, .int .i64 (i : Int)), (11, .int .i64 (j : Int))]) (ol2 := [(6, .one (vecA (fun _ => 0)) (vecA (fun _ => 0))), (7, .one (vecA (fun _ => 0)) (vecA (cutF (timesF p n T u v) k)))]) rfl rfl ?_
      refine snd_seq ?_
      apply sr tokTB (by kernel_rfl)
      · intro RR hRR
        refine w_move (by constructor) ?_
        refine w_fac rfl und31 rfl kn2 nz2 (by decide) rfl (by constructor) ?_
        refine w_ldc rfl kn2 (by constructor) (by exact sz2.symm) (by exact ag2.symm) ?_
        refine w_lss rfl rfl ?_
        exact hRR
      refine snd_cond _ rfl (fun hc28 => ?_) (fun hc28 => ?_)
      · try simp only [hcs] at hc28
        refine snd_skip ?_
        refine snd_seq ?_
        refine snd_block ?_
        apply ld tokTB mixed (by kernel_rfl) (by kernel_rfl)
        · intro RR hRR
          refine w_move (by constructor) ?_
          refine w_move (by constructor) ?_
          refine w_iac rfl rfl und29 kn5 (by exact sz5.symm) ?_ rfl ?_
          · exact ⟨by omega, by omega⟩
          first | refine w_ldc rfl kn5 (by constructor) (by exact sz5.symm) (by exact ag5.symm) ?_ | refine w_ldp rfl kn5 rfl (by constructor) (by exact sz5.symm) (by exact ag5.symm) ?_
          refine y_conv rfl und5 und2 ?_
          refine w_move (by constructor) ?_
          refine w_iac rfl rfl und29 kn5 (by exact sz5.symm) ?_ rfl ?_
          · exact ⟨by omega, by omega⟩
          first | refine w_ldc rfl kn5 (by constructor) (by exact sz5.symm) (by exact ag5.symm) ?_ | refine w_ldp rfl kn5 rfl (by constructor) (by exact sz5.symm) (by exact ag5.symm) ?_
          refine y_conv rfl und5 und2 ?_
          refine w_mul rfl rfl (by exact w_uv hu hv i j) ?_
          refine w_move (by constructor) ?_
          refine w_move (by constructor) ?_
          refine w_move (by constructor) ?_
          refine w_fac rfl und31 rfl kn24 nz24 (by decide) rfl (by constructor) ?_
          refine w_iac rfl rfl und24 kn23 (by exact sz23.symm) ?_ rfl ?_
          · exact ⟨by omega, by omega⟩
          refine w_iac rfl rfl und23 kn22 (by exact sz22.symm) ?_ rfl ?_
          · exact ⟨by omega, by omega⟩
          refine w_iac rfl rfl und22 kn5 (by exact sz5.symm) ?_ rfl ?_
          · exact ⟨by omega, by omega⟩
          first | refine w_ldc rfl kn5 (by constructor) (by exact sz5.symm) (by exact ag5.symm) ?_ | refine w_ldp rfl kn5 rfl (by constructor) (by exact sz5.symm) (by exact ag5.symm) ?_
          refine y_conv rfl und5 und2 ?_
          refine w_mul rfl rfl (by exact w_tm hu hv hT k i j) ?_
          refine w_add rfl rfl (by exact w_acc hu hv hT hn k (by omega) (by omega)) ?_
          refine w_assign (by constructor) ?_
          exact hRR
        apply lr tokTB (by kernel_rfl)
        · intro RR hRR
          refine w_move (by constructor) ?_
          refine y_add rfl rfl ?_
          refine w_assign (by constructor) ?_
          exact hRR
        refine ⟨j + 1, ρ0, ?_, (by omega), (by dsimp only; omega)⟩
        exact ⟨⟨m_calg, (m_cvec (fun _ _ => rfl)), (m_cvec (fun _ _ => rfl)), ⟨rfl, rfl, rfl, rfl, rfl⟩, ⟨rfl, rfl, rfl, rfl, rfl⟩, (by first | exact m_int rfl | exact m_int (by omega) | exact m_int (by simp; done) | (exact m_int (by simp; omega))), (by first | exact m_int rfl | exact m_int (by omega) | exact m_int (by simp; done) | (exact m_int (by simp; omega))), (by first | exact m_int rfl | exact m_int (by omega) | exact m_int (by simp; done) | (exact m_int (by simp; omega))), (by first | exact m_int rfl | exact m_int (by omega) | exact m_int (by simp; done) | (exact m_int (by simp; omega))), trivial⟩, ⟨⟨rfl, (by first | exact trivial | exact ssh_vec | exact ssh_alg | exact ssh_tab | exact ssh_mat | exact ⟨rfl, fun _ => trivial⟩ | exact ⟨rfl, fun _ => by rw [zr29]; exact ssh_vec⟩), (by exact mt_vec (fun _ _ => rfl))⟩, ⟨rfl, (by first | exact trivial | exact ssh_vec | exact ssh_alg | exact ssh_tab | exact ssh_mat | exact ⟨rfl, fun _ => trivial⟩ | exact ⟨rfl, fun _ => by rw [zr29]; exact ssh_vec⟩), (by exact mt_vec (fun _ _ => rfl))⟩, trivial⟩, ⟨⟨(fun h => by first | exact ⟨rfl, rfl⟩ | exact absurd h (by decide)), (fun h => by first | exact ⟨rfl, rfl⟩ | exact absurd h (by decide)), trivial⟩, ⟨(fun h => by first | exact ⟨rfl, rfl⟩ | exact absurd h (by decide)), (fun h => by first | exact ⟨rfl, rfl⟩ | exact absurd h (by decide)), trivial⟩, trivial⟩⟩
      · try simp only [hcs] at hc28
        have hjn : n = j := by omega
        subst hjn
        refine snd_exit ?_
        apply lr tokTB (by kernel_rfl)
        · intro RR hRR
          refine w_move (by constructor) ?_
          refine y_add rfl rfl ?_
          refine w_assign (by constructor) ?_
          exact hRR
        refine ⟨i + 1, ρ0, ?_, (by omega), (by dsimp only; omega)⟩
        exact ⟨⟨m_calg, (m_cvec (fun _ _ => rfl)), (m_cvec (fun _ _ => rfl)), ⟨rfl, rfl, rfl, rfl, rfl⟩, ⟨rfl, rfl, rfl, rfl, rfl⟩, (by first | exact m_int rfl | exact m_int (by omega) | exact m_int (by simp; done) | (exact m_int (by simp; omega))), (by first | exact m_int rfl | exact m_int (by omega) | exact m_int (by simp; done) | (exact m_int (by simp; omega))), (by first | exact m_int rfl | exact m_int (by omega) | exact m_int (by simp; done) | (exact m_int (by simp; omega))), trivial⟩, ⟨⟨rfl, (by first | exact trivial | exact ssh_vec | exact ssh_alg | exact ssh_tab | exact ssh_mat | exact ⟨rfl, fun _ => trivial⟩ | exact ⟨rfl, fun _ => by rw [zr29]; exact ssh_vec⟩), (by exact mt_vec (fun _ _ => rfl))⟩, ⟨rfl, (by first | exact trivial | exact ssh_vec | exact ssh_alg | exact ssh_tab | exact ssh_mat | exact ⟨rfl, fun _ => trivial⟩ | exact ⟨rfl, fun _ => by rw [zr29]; exact ssh_vec⟩), (by exact mt_vec (fun _ _ => rfl))⟩, trivial⟩, ⟨⟨(fun h => by first | exact ⟨rfl, rfl⟩ | exact absurd h (by decide)), (fun h => by first | exact ⟨rfl, rfl⟩ | exact absurd h (by decide)), trivial⟩, ⟨(fun h => by first | exact ⟨rfl, rfl⟩ | exact absurd h (by decide)), (fun h => by first | exact ⟨rfl, rfl⟩ | exact absurd h (by decide)), trivial⟩, trivial⟩⟩
    · try simp only [hcs] at hc22
      have hin : n = i := by omega
      subst hin
      refine snd_exit ?_
      apply lr tokTB (by kernel_rfl)
      · intro RR hRR
        refine w_move (by constructor) ?_
        refine w_move (by constructor) ?_
        refine w_fac rfl und31 rfl kn2 nz2 (by decide) rfl (by constructor) ?_
        refine w_ldc rfl kn2 (by constructor) (by exact sz2.symm) (by exact ag2.symm) ?_
        refine w_rem rfl rfl (by first | assumption | omega) ?_
        refine w_conv rfl und2 und5 (by exact w_fin hu hv hT hn (by omega) hp hp2) ?_
        refine w_iap rfl rfl und29 kn5 rfl (by exact sz5.symm) rfl ?_ ?_
        · exact ⟨by omega, by omega⟩
        first | refine w_stw rfl (by constructor) kn5 rfl (by exact trivial) (by first | exact trivial | exact ssh_vec | exact ssh_alg | exact ssh_tab | exact ssh_mat | exact ⟨rfl, fun _ => trivial⟩ | exact ⟨rfl, fun _ => by rw [zr29]; exact ssh_vec⟩) (by exact sz5.symm) ?_ | refine w_sti rfl rfl kn5 rfl (by exact trivial) (by exact sz5.symm) ?_ | refine w_store rfl (HV.eq (by constructor)) kn5 rfl (by exact trivial) (by first | exact trivial | exact ssh_vec | exact ssh_alg | exact ssh_tab | exact ssh_mat | exact ⟨rfl, fun _ => trivial⟩ | exact ⟨rfl, fun _ => by rw [zr29]; exact ssh_vec⟩) (by exact sz5.symm) (put_in (by first | exact put_mat | exact put_tab | exact put_alg0 | exact put_alg1 | exact put_alg2 | exact put_alg3 | exact put_alg3i | exact put_alg2ij | exact put_alg2ijk | exact put_mat2 | exact put_tab2 | exact put_tab3)) ?_ | refine w_store rfl (HV.eq (by constructor)) kn5 rfl (by exact trivial) (by exact trivial) (by exact sz5.symm) rfl ?_
        exact hRR
      apply lr tokTB (by kernel_rfl)
      · intro RR hRR
        refine w_move (by constructor) ?_
        refine y_add rfl rfl ?_
        refine w_assign (by constructor) ?_
        exact hRR
      refine ⟨k + 1, ρ0, ?_, (by omega), (by dsimp only; omega)⟩
      exact ⟨⟨m_calg, (m_cvec (fun _ _ => rfl)), (m_cvec (fun _ _ => rfl)), ⟨rfl, rfl, rfl, rfl, rfl⟩, ⟨rfl, rfl, rfl, rfl, rfl⟩, (by first | exact m_int rfl | exact m_int (by omega) | exact m_int (by simp; done) | (exact m_int (by simp; omega))), trivial⟩, ⟨⟨rfl, (by first | exact trivial | exact ssh_vec | exact ssh_alg | exact ssh_tab | exact ssh_mat | exact ⟨rfl, fun _ => trivial⟩ | exact ⟨rfl, fun _ => by rw [zr29]; exact ssh_vec⟩), (by exact mt_vec (fun _ _ => rfl))⟩, ⟨rfl, (by first | exact trivial | exact ssh_vec | exact ssh_alg | exact ssh_tab | exact ssh_mat | exact ⟨rfl, fun _ => trivial⟩ | exact ⟨rfl, fun _ => by rw [zr29]; exact ssh_vec⟩), (by exact mt_vec (fun j _ => upd_cut _ k j))⟩, trivial⟩, ⟨⟨(fun h => by first | exact ⟨rfl, rfl⟩ | exact absurd h (by decide)), (fun h => by first | exact ⟨rfl, rfl⟩ | exact absurd h (by decide)), trivial⟩, ⟨(fun h => by first | exact ⟨rfl, rfl⟩ | exact absurd h (by decide)), (fun h => by first | exact ⟨rfl, rfl⟩ | exact absurd h (by decide)), trivial⟩, trivial⟩⟩
  · try simp only [hcs] at hc16
    have hkn : n = k := by omega
    subst hkn
    refine snd_exit ?_
    apply sr tokTB (by kernel_rfl)
    · intro RR hRR
      refine w_ldp rfl kn29 rfl (by constructor) (by exact sz29.symm) (by exact ag29.symm) ?_
      refine w_stw rfl (by constructor) kn29 rfl (by exact trivial) (by first | exact trivial | exact ssh_vec | exact ssh_alg | exact ssh_tab | exact ssh_mat | exact ⟨rfl, fun _ => trivial⟩ | exact ⟨rfl, fun _ => by rw [zr29]; exact ssh_vec⟩) (by exact sz29.symm) ?_
      exact hRR
    refine snd_ret ?_
    exact rt_c (T := TB) rfl kn29 rfl sz29.symm ag29.symm (fun V => m_vec (fun j hj => timesF_cut j))
end Go.Am
set_option linter.unusedVariables false
set_option linter.unusedSimpArgs false
set_option maxRecDepth 4000
namespace Go.Am
attribute [local irreducible] retQ
open Go.Proofs
theorem c_times {p : Int} {n : Nat} {T : Nat → Nat → Nat → Int} {fo u v : Nat → Int} (hp : 0 < p) (hp2 : p < 256) (hn : n ≤ 6) (hT : B8T T) (hu : B8 u) (hv : B8 v) : ACalls Try.prog TB 76 [.cptr (algA p (n : Int) T fo), vecA u, vecA v] (vecA (timesF p n T u v)) [] := by
  refine acalls_of tokTB Try.func76 rfl rfl (Nat.le_of_ble_eq_true rfl) ?_
  apply sr tokTB (by kernel_rfl)
  · intro RR hRR
    refine w_boxc (HV.eq (by constructor)) (by exact trivial) ?_
    refine w_boxc (HV.eq (by constructor)) (by exact trivial) ?_
    refine w_alloc kn29 rfl zr29 ?_
    exact hRR
  apply sr tokTB (by kernel_rfl)
  · intro RR hRR
    refine w_bld_a kn120 zr120 und120 kn2 (fun _ => (by exact sz2.symm)) trivial rfl (by exact sz2.symm) ?_
    refine w_alloc kn120 rfl zr120 ?_
    refine w_stw rfl (by constructor) kn120 rfl (by exact trivial) (by first | exact trivial | exact ssh_vec | exact ssh_alg | exact ssh_tab | exact ssh_mat | exact ⟨rfl, fun _ => trivial⟩ | exact ⟨rfl, fun _ => by rw [zr29]; exact ssh_vec⟩) (by exact sz120.symm) ?_
    exact hRR
  refine snd_seq ?_
  apply sr tokTB (by kernel_rfl)
  · intro RR hRR
    refine w_move (by constructor) ?_
    refine y_call rfl (ec exn) (c_n) ?_
    refine w_move (by constructor) ?_
    exact hRR
  refine snd_block ?_
  refine snd_loop (S := Nat) (fun i => ([(0, .cptr (algA p (n : Int) T fo)), (4, .cptr (vecA u)), (5, .cptr (vecA v)), (6, .ptr 6 0 [] 0 (vecA (fun _ => 0))), (7, .ptr 7 0 [] 0 (v64A (fun _ => 0))), (17, .int .i64 (n : Int)), (18, .int .i64 (i : Int))], [(6, .one (vecA (fun _ => 0)) (vecA (fun _ => 0))), (7, .one (v64A (fun _ => 0)) (v64A (accF T u v n i 0)))])) (fun i => i ≤ n) (fun i => n - i) (0) ρ0 ?_ ?_ ?_
  · exact ⟨⟨m_calg, (m_cvec (fun _ _ => rfl)), (m_cvec (fun _ _ => rfl)), ⟨rfl, rfl, rfl, rfl, rfl⟩, ⟨rfl, rfl, rfl, rfl, rfl⟩, (by first | exact m_int rfl | exact m_int (by omega) | exact m_int (by simp; done) | (exact m_int (by simp; omega))), (by first | exact m_int rfl | exact m_int (by omega) | exact m_int (by simp; done) | (exact m_int (by simp; omega))), trivial⟩, ⟨⟨rfl, (by first | exact trivial | exact ssh_vec | exact ssh_alg | exact ssh_tab | exact ssh_mat | exact ⟨rfl, fun _ => trivial⟩ | exact ⟨rfl, fun _ => by rw [zr29]; exact ssh_vec⟩), (by exact mt_vec (fun _ _ => rfl))⟩, ⟨rfl, (by first | exact trivial | exact ssh_vec | exact ssh_alg | exact ssh_tab | exact ssh_mat | exact ⟨rfl, fun _ => trivial⟩ | exact ⟨rfl, fun _ => by rw [zr29]; exact ssh_vec⟩), (by exact mt_vec (fun k _ => by simp [accF, sumZ]))⟩, trivial⟩, ⟨⟨(fun h => by first | exact ⟨rfl, rfl⟩ | exact absurd h (by decide)), (fun h => by first | exact ⟨rfl, rfl⟩ | exact absurd h (by decide)), trivial⟩, ⟨(fun h => by first | exact ⟨rfl, rfl⟩ | exact absurd h (by decide)), (fun h => by first | exact ⟨rfl, rfl⟩ | exact absurd h (by decide)), trivial⟩, trivial⟩⟩
  · exact Nat.zero_le _
  intro i hi0
  refine sq (env2 := [(0, .cptr (algA p (n : Int) T fo)), (4, .cptr (vecA u)), (5, .cptr (vecA v)), (6, .ptr 6 0 [] 0 (vecA (fun _ => 0))), (7, .ptr 7 0 [] 0 (v64A (fun _ => 0))), (17, .int .i64 (n : Int)), (18, .int .i64 (i : Int))]) (ol2 := [(6, .one (vecA (fun _ => 0)) (vecA (fun _ => 0))), (7, .one (v64A (fun _ => 0)) (v64A (accF T u v n i 0)))]) rfl rfl ?_
  apply sr tokTB (by kernel_rfl)
  · intro RR hRR
    refine w_lss rfl rfl ?_
    exact hRR
  refine snd_seq ?_
  refine snd_cond _ rfl (fun hc19 => ?_) (fun hc19 => ?_)
  · try simp only [hcs] at hc19
    refine snd_skip ?_
    refine snd_seq ?_
    refine snd_block ?_
    apply sr tokTB (by kernel_rfl)
    · intro RR hRR
      refine w_move (by constructor) ?_
      refine w_assign (by constructor) ?_
      exact hRR
    apply sr tokTB (by kernel_rfl)
    · intro RR hRR
      refine w_move (by constructor) ?_
      refine y_call rfl (ec exn) (c_n) ?_
      refine w_move (by constructor) ?_
      exact hRR
    refine snd_block ?_
    refine snd_loop (S := Nat) (fun j => ([(0, .cptr (algA p (n : Int) T fo)), (4, .cptr (vecA u)), (5, .cptr (vecA v)), (6, .ptr 6 0 [] 0 (vecA (fun _ => 0))), (7, .ptr 7 0 [] 0 (v64A (fun _ => 0))), (17, .int .i64 (n : Int)), (18, .int .i64 (i : Int)), (8, .int .i64 (i : Int)), (22, .int .i64 (n : Int)), (23, .int .i64 (j : Int))], [(6, .one (vecA (fun _ => 0)) (vecA (fun _ => 0))), (7, .one (v64A (fun _ => 0)) (v64A (accF T u v n i j)))])) (fun j => j ≤ n) (fun j => n - j) (0) ρ0 ?_ ?_ ?_
    · exact ⟨⟨m_calg, (m_cvec (fun _ _ => rfl)), (m_cvec (fun _ _ => rfl)), ⟨rfl, rfl, rfl, rfl, rfl⟩, ⟨rfl, rfl, rfl, rfl, rfl⟩, (by first | exact m_int rfl | exact m_int (by omega) | exact m_int (by simp; done) | (exact m_int (by simp; omega))), (by first | exact m_int rfl | exact m_int (by omega) | exact m_int (by simp; done) | (exact m_int (by simp; omega))), (by first | exact m_int rfl | exact m_int (by omega) | exact m_int (by simp; done) | (exact m_int (by simp; omega))), (by first | exact m_int rfl | exact m_int (by omega) | exact m_int (by simp; done) | (exact m_int (by simp; omega))), (by first | exact m_int rfl | exact m_int (by omega) | exact m_int (by simp; done) | (exact m_int (by simp; omega))), trivial⟩, ⟨⟨rfl, (by first | exact trivial | exact ssh_vec | exact ssh_alg | exact ssh_tab | exact ssh_mat | exact ⟨rfl, fun _ => trivial⟩ | exact ⟨rfl, fun _ => by rw [zr29]; exact ssh_vec⟩), (by exact mt_vec (fun _ _ => rfl))⟩, ⟨rfl, (by first | exact trivial | exact ssh_vec | exact ssh_alg | exact ssh_tab | exact ssh_mat | exact ⟨rfl, fun _ => trivial⟩ | exact ⟨rfl, fun _ => by rw [zr29]; exact ssh_vec⟩), (by exact mt_vec (fun _ _ => rfl))⟩, trivial⟩, ⟨⟨(fun h => by first | exact ⟨rfl, rfl⟩ | exact absurd h (by decide)), (fun h => by first | exact ⟨rfl, rfl⟩ | exact absurd h (by decide)), trivial⟩, ⟨(fun h => by first | exact ⟨rfl, rfl⟩ | exact absurd h (by decide)), (fun h => by first | exact ⟨rfl, rfl⟩ | exact absurd h (by decide)), trivial⟩, trivial⟩⟩
    · exact Nat.zero_le _
    intro j hi2
    refine sq (env2 := [(0, .cptr (algA p (n : Int) T fo)), (4, .cptr (vecA u)), (5, .cptr (vecA v)), (6, .ptr 6 0 [] 0 (vecA (fun _ => 0))), (7, .ptr 7 0 [] 0 (v64A (fun _ => 0))), (17, .int .i64 (n : Int)), (18, .int .i64 (i : Int)), (8, .int .i64 (i : Int)), (22, .int .i64 (n : Int)), (23, .int .i64 (j : Int))]) (ol2 := [(6, .one (vecA (fun _ => 0)) (vecA (fun _ => 0))), (7, .one (v64A (fun _ => 0)) (v64A (accF T u v n i j)))]) rfl rfl ?_
    apply sr tokTB (by kernel_rfl)
    · intro RR hRR
      refine w_lss rfl rfl ?_
      exact hRR
    refine snd_seq ?_
    refine snd_cond _ rfl (fun hc24 => ?_) (fun hc24 => ?_)
    · try simp only [hcs] at hc24
      refine snd_skip ?_
      refine snd_seq ?_
      refine snd_block ?_
      apply sr tokTB (by kernel_rfl)
      · intro RR hRR
        refine w_move (by constructor) ?_
        refine w_assign (by constructor) ?_
        exact hRR
      apply sd tokTB mixed (by kernel_rfl) (by kernel_rfl)
      · intro RR hRR
        refine w_move (by constructor) ?_
        refine w_iac rfl rfl und29 kn5 (by exact sz5.symm) ?_ rfl ?_
        · exact ⟨by omega, by omega⟩
        first | refine w_ldc rfl kn5 (by constructor) (by exact sz5.symm) (by exact ag5.symm) ?_ | refine w_ldp rfl kn5 rfl (by constructor) (by exact sz5.symm) (by exact ag5.symm) ?_
        refine y_conv rfl und5 und2 ?_
        refine w_move (by constructor) ?_
        refine w_iac rfl rfl und29 kn5 (by exact sz5.symm) ?_ rfl ?_
        · exact ⟨by omega, by omega⟩
        first | refine w_ldc rfl kn5 (by constructor) (by exact sz5.symm) (by exact ag5.symm) ?_ | refine w_ldp rfl kn5 rfl (by constructor) (by exact sz5.symm) (by exact ag5.symm) ?_
        refine y_conv rfl und5 und2 ?_
        refine w_mul rfl rfl (by exact w_uv hu hv i j) ?_
        refine w_assign (by constructor) ?_
        exact hRR
      refine snd_seq ?_
      apply sr tokTB (by kernel_rfl)
      · intro RR hRR
        refine w_move (by constructor) ?_
        refine w_eql rfl rfl ?_
        exact hRR
      refine snd_cond _ rfl (fun hc36 => ?_) (fun hc36 => ?_)
      · try simp only [hcs] at hc36
        refine snd_exit ?_
        apply lr tokTB (by kernel_rfl)
        · intro RR hRR
          refine y_add rfl rfl ?_
          refine w_move (by constructor) ?_
          exact hRR
        refine ⟨j + 1, ρ0, ?_, (by omega), (by dsimp only; omega)⟩
        exact ⟨⟨m_calg, (m_cvec (fun _ _ => rfl)), (m_cvec (fun _ _ => rfl)), ⟨rfl, rfl, rfl, rfl, rfl⟩, ⟨rfl, rfl, rfl, rfl, rfl⟩, (by first | exact m_int rfl | exact m_int (by omega) | exact m_int (by simp; done) | (exact m_int (by simp; omega))), (by first | exact m_int rfl | exact m_int (by omega) | exact m_int (by simp; done) | (exact m_int (by simp; omega))), (by first | exact m_int rfl | exact m_int (by omega) | exact m_int (by simp; done) | (exact m_int (by simp; omega))), (by first | exact m_int rfl | exact m_int (by omega) | exact m_int (by simp; done) | (exact m_int (by simp; omega))), (by first | exact m_int rfl | exact m_int (by omega) | exact m_int (by simp; done) | (exact m_int (by simp; omega))), trivial⟩, ⟨⟨rfl, (by first | exact trivial | exact ssh_vec | exact ssh_alg | exact ssh_tab | exact ssh_mat | exact ⟨rfl, fun _ => trivial⟩ | exact ⟨rfl, fun _ => by rw [zr29]; exact ssh_vec⟩), (by exact mt_vec (fun _ _ => rfl))⟩, ⟨rfl, (by first | exact trivial | exact ssh_vec | exact ssh_alg | exact ssh_tab | exact ssh_mat | exact ⟨rfl, fun _ => trivial⟩ | exact ⟨rfl, fun _ => by rw [zr29]; exact ssh_vec⟩), (by first | exact mt_vec (fun z _ => mix_all) | exact mt_vec (fun z _ => (acc_zero hc36).symm))⟩, trivial⟩, ⟨⟨(fun h => by first | exact ⟨rfl, rfl⟩ | exact absurd h (by decide)), (fun h => by first | exact ⟨rfl, rfl⟩ | exact absurd h (by decide)), trivial⟩, ⟨(fun h => by first | exact ⟨rfl, rfl⟩ | exact absurd h (by decide)), (fun h => by first | exact ⟨rfl, rfl⟩ | exact absurd h (by decide)), trivial⟩, trivial⟩⟩
      · try simp only [hcs] at hc36
        refine snd_skip ?_
        apply sr tokTB (by kernel_rfl)
        · intro RR hRR
          refine w_move (by constructor) ?_
          refine y_call rfl (ec exn) (c_n) ?_
          refine w_move (by constructor) ?_
          exact hRR
        refine snd_block ?_
        refine snd_loop (S := Nat) (fun k => ([(0, .cptr (algA p (n : Int) T fo)), (4, .cptr (vecA u)), (5, .cptr (vecA v)), (6, .ptr 6 0 [] 0 (vecA (fun _ => 0))), (7, .ptr 7 0 [] 0 (v64A (fun _ => 0))), (17, .int .i64 (n : Int)), (18, .int .i64 (i : Int)), (8, .int .i64 (i : Int)), (22, .int .i64 (n : Int)), (23, .int .i64 (j : Int)), (9, .int .i64 (j : Int)), (10, .int .i64 (u i * v j)), (38, .int .i64 (n : Int)), (39, .int .i64 (k : Int))], [(6, .one (vecA (fun _ => 0)) (vecA (fun _ => 0))), (7, .one (v64A (fun _ => 0)) (v64A (mixF (accF T u v n i (j + 1)) (accF T u v n i j) k)))])) (fun k => k ≤ n) (fun k => n - k) (0) ρ0 ?_ ?_ ?_
        · exact ⟨⟨m_calg, (m_cvec (fun _ _ => rfl)), (m_cvec (fun _ _ => rfl)), ⟨rfl, rfl, rfl, rfl, rfl⟩, ⟨rfl, rfl, rfl, rfl, rfl⟩, (by first | exact m_int rfl | exact m_int (by omega) | exact m_int (by simp; done) | (exact m_int (by simp; omega))), (by first | exact m_int rfl | exact m_int (by omega) | exact m_int (by simp; done) | (exact m_int (by simp; omega))), (by first | exact m_int rfl | exact m_int (by omega) | exact m_int (by simp; done) | (exact m_int (by simp; omega))), (by first | exact m_int rfl | exact m_int (by omega) | exact m_int (by simp; done) | (exact m_int (by simp; omega))), (by first | exact m_int rfl | exact m_int (by omega) | exact m_int (by simp; done) | (exact m_int (by simp; omega))), (by first | exact m_int rfl | exact m_int (by omega) | exact m_int (by simp; done) | (exact m_int (by simp; omega))), (by first | exact m_int rfl | exact m_int (by omega) | exact m_int (by simp; done) | (exact m_int (by simp; omega))), (by first | exact m_int rfl | exact m_int (by omega) | exact m_int (by simp; done) | (exact m_int (by simp; omega))), (by first | exact m_int rfl | exact m_int (by omega) | exact m_int (by simp; done) | (exact m_int (by simp; omega))), trivial⟩, ⟨⟨rfl, (by first | exact trivial | exact ssh_vec | exact ssh_alg | exact ssh_tab | exact ssh_mat | exact ⟨rfl, fun _ => trivial⟩ | exact ⟨rfl, fun _ => by rw [zr29]; exact ssh_vec⟩), (by exact mt_vec (fun _ _ => rfl))⟩, ⟨rfl, (by first | exact trivial | exact ssh_vec | exact ssh_alg | exact ssh_tab | exact ssh_mat | exact ⟨rfl, fun _ => trivial⟩ | exact ⟨rfl, fun _ => by rw [zr29]; exact ssh_vec⟩), (by exact mt_vec (fun k _ => by simp [mixF]))⟩, trivial⟩, ⟨⟨(fun h => by first | exact ⟨rfl, rfl⟩ | exact absurd h (by decide)), (fun h => by first | exact ⟨rfl, rfl⟩ | exact absurd h (by decide)), trivial⟩, ⟨(fun h => by first | exact ⟨rfl, rfl⟩ | exact absurd h (by decide)), (fun h => by first | exact ⟨rfl, rfl⟩ | exact absurd h (by decide)), trivial⟩, trivial⟩⟩
        · exact Nat.zero_le _
        intro k hi4
        refine sq (env2 := [(0, .cptr (algA p (n : Int) T fo)), (4, .cptr (vecA u)), (5, .cptr (vecA v)), (6, .ptr 6 0 [] 0 (vecA (fun _ => 0))), (7, .ptr 7 0 [] 0 (v64A (fun _ => 0))), (17, .int .i64 (n : Int)), (18, .int .i64 (i : Int)), (8, .int .i64 (i : Int)), (22, .int .i64 (n : Int)), (23, .int .i64 (j : Int)), (9, .int .i64 (j : Int)), (10, .int .i64 (u i * v j)), (38, .int .i64 (n : Int)), (39, .int .i64 (k : Int))]) (ol2 := [(6, .one (vecA (fun _ => 0)) (vecA (fun _ => 0))), (7, .one (v64A (fun _ => 0)) (v64A (mixF (accF T u v n i (j + 1)) (accF T u v n i j) k)))]) rfl rfl ?_
        apply sr tokTB (by kernel_rfl)
        · intro RR hRR
          refine w_lss rfl rfl ?_
          exact hRR
        refine snd_seq ?_
        refine snd_cond _ rfl (fun hc40 => ?_) (fun hc40 => ?_)
        · try simp only [hcs] at hc40
          refine snd_skip ?_
          refine snd_seq ?_
          refine snd_block ?_
          apply sr tokTB (by kernel_rfl)
          · intro RR hRR
            refine w_move (by constructor) ?_
            refine w_assign (by constructor) ?_
            exact hRR
          apply ld tokTB mixed (by kernel_rfl) (by kernel_rfl)
          · intro RR hRR
            refine w_move (by constructor) ?_
            refine w_iap rfl rfl und120 kn2 rfl (by exact sz2.symm) rfl ?_ ?_
            · exact ⟨by omega, by omega⟩
            first | refine w_ldc rfl kn2 (by constructor) (by exact sz2.symm) (by exact ag2.symm) ?_ | refine w_ldp rfl kn2 rfl (by constructor) (by exact sz2.symm) (by exact ag2.symm) ?_
            refine w_move (by constructor) ?_
            refine w_move (by constructor) ?_
            refine w_move (by constructor) ?_
            refine w_move (by constructor) ?_
            refine w_move (by constructor) ?_
            refine w_nilc rfl ?_
            refine w_fac rfl und31 rfl kn24 nz24 (by decide) rfl (by constructor) ?_
            refine w_iac rfl rfl und24 kn23 (by exact sz23.symm) ?_ rfl ?_
            · exact ⟨by omega, by omega⟩
            refine w_iac rfl rfl und23 kn22 (by exact sz22.symm) ?_ rfl ?_
            · exact ⟨by omega, by omega⟩
            refine w_iac rfl rfl und22 kn5 (by exact sz5.symm) ?_ rfl ?_
            · exact ⟨by omega, by omega⟩
            first | refine w_ldc rfl kn5 (by constructor) (by exact sz5.symm) (by exact ag5.symm) ?_ | refine w_ldp rfl kn5 rfl (by constructor) (by exact sz5.symm) (by exact ag5.symm) ?_
            refine y_conv rfl und5 und2 ?_
            refine w_mul rfl rfl (by exact w_tm hu hv hT k i j) ?_
            refine w_add rfl rfl (by exact w_acc2 hu hv hT hn (by omega) (by omega) (by omega)) ?_
            refine w_iap rfl rfl und120 kn2 rfl (by exact sz2.symm) rfl ?_ ?_
            · exact ⟨by omega, by omega⟩
            first | refine w_stw rfl (by constructor) kn2 rfl (by exact trivial) (by first | exact trivial | exact ssh_vec | exact ssh_alg | exact ssh_tab | exact ssh_mat | exact ⟨rfl, fun _ => trivial⟩ | exact ⟨rfl, fun _ => by rw [zr29]; exact ssh_vec⟩) (by exact sz2.symm) ?_ | refine w_sti rfl rfl kn2 rfl (by exact trivial) (by exact sz2.symm) ?_ | refine w_store rfl (HV.eq (by constructor)) kn2 rfl (by exact trivial) (by first | exact trivial | exact ssh_vec | exact ssh_alg | exact ssh_tab | exact ssh_mat | exact ⟨rfl, fun _ => trivial⟩ | exact ⟨rfl, fun _ => by rw [zr29]; exact ssh_vec⟩) (by exact sz2.symm) (put_in (by first | exact put_mat | exact put_tab | exact put_alg0 | exact put_alg1 | exact put_alg2 | exact put_alg3 | exact put_alg3i | exact put_alg2ij | exact put_alg2ijk | exact put_mat2 | exact put_tab2 | exact put_tab3)) ?_ | refine w_store rfl (HV.eq (by constructor)) kn2 rfl (by exact trivial) (by exact trivial) (by exact sz2.symm) rfl ?_
            exact hRR
          apply lr tokTB (by kernel_rfl)
          · intro RR hRR
            refine y_add rfl rfl ?_
            refine w_move (by constructor) ?_
            exact hRR
          refine ⟨k + 1, ρ0, ?_, (by omega), (by dsimp only; omega)⟩
          exact ⟨⟨m_calg, (m_cvec (fun _ _ => rfl)), (m_cvec (fun _ _ => rfl)), ⟨rfl, rfl, rfl, rfl, rfl⟩, ⟨rfl, rfl, rfl, rfl, rfl⟩, (by first | exact m_int rfl | exact m_int (by omega) | exact m_int (by simp; done) | (exact m_int (by simp; omega))), (by first | exact m_int rfl | exact m_int (by omega) | exact m_int (by simp; done) | (exact m_int (by simp; omega))), (by first | exact m_int rfl | exact m_int (by omega) | exact m_int (by simp; done) | (exact m_int (by simp; omega))), (by first | exact m_int rfl | exact m_int (by omega) | exact m_int (by simp; done) | (exact m_int (by simp; omega))), (by first | exact m_int rfl | exact m_int (by omega) | exact m_int (by simp; done) | (exact m_int (by simp; omega))), (by first | exact m_int rfl | exact m_int (by omega) | exact m_int (by simp; done) | (exact m_int (by simp; omega))), (by first | exact m_int rfl | exact m_int (by omega) | exact m_int (by simp; done) | (exact m_int (by simp; omega))), (by first | exact m_int rfl | exact m_int (by omega) | exact m_int (by simp; done) | (exact m_int (by simp; omega))), (by first | exact m_int rfl | exact m_int (by omega) | exact m_int (by simp; done) | (exact m_int (by simp; omega))), trivial⟩, ⟨⟨rfl, (by first | exact trivial | exact ssh_vec | exact ssh_alg | exact ssh_tab | exact ssh_mat | exact ⟨rfl, fun _ => trivial⟩ | exact ⟨rfl, fun _ => by rw [zr29]; exact ssh_vec⟩), (by exact mt_vec (fun _ _ => rfl))⟩, ⟨rfl, (by first | exact trivial | exact ssh_vec | exact ssh_alg | exact ssh_tab | exact ssh_mat | exact ⟨rfl, fun _ => trivial⟩ | exact ⟨rfl, fun _ => by rw [zr29]; exact ssh_vec⟩), (by exact mt_vec (fun z _ => upd_mix _ _ k z))⟩, trivial⟩, ⟨⟨(fun h => by first | exact ⟨rfl, rfl⟩ | exact absurd h (by decide)), (fun h => by first | exact ⟨rfl, rfl⟩ | exact absurd h (by decide)), trivial⟩, ⟨(fun h => by first | exact ⟨rfl, rfl⟩ | exact absurd h (by decide)), (fun h => by first | exact ⟨rfl, rfl⟩ | exact absurd h (by decide)), trivial⟩, trivial⟩⟩
        · try simp only [hcs] at hc40
          have hkn : n = k := by omega
          subst hkn
          refine snd_exit ?_
          apply lr tokTB (by kernel_rfl)
          · intro RR hRR
            refine y_add rfl rfl ?_
            refine w_move (by constructor) ?_
            exact hRR
          refine ⟨j + 1, ρ0, ?_, (by omega), (by dsimp only; omega)⟩
          exact ⟨⟨m_calg, (m_cvec (fun _ _ => rfl)), (m_cvec (fun _ _ => rfl)), ⟨rfl, rfl, rfl, rfl, rfl⟩, ⟨rfl, rfl, rfl, rfl, rfl⟩, (by first | exact m_int rfl | exact m_int (by omega) | exact m_int (by simp; done) | (exact m_int (by simp; omega))), (by first | exact m_int rfl | exact m_int (by omega) | exact m_int (by simp; done) | (exact m_int (by simp; omega))), (by first | exact m_int rfl | exact m_int (by omega) | exact m_int (by simp; done) | (exact m_int (by simp; omega))), (by first | exact m_int rfl | exact m_int (by omega) | exact m_int (by simp; done) | (exact m_int (by simp; omega))), (by first | exact m_int rfl | exact m_int (by omega) | exact m_int (by simp; done) | (exact m_int (by simp; omega))), trivial⟩, ⟨⟨rfl, (by first | exact trivial | exact ssh_vec | exact ssh_alg | exact ssh_tab | exact ssh_mat | exact ⟨rfl, fun _ => trivial⟩ | exact ⟨rfl, fun _ => by rw [zr29]; exact ssh_vec⟩), (by exact mt_vec (fun _ _ => rfl))⟩, ⟨rfl, (by first | exact trivial | exact ssh_vec | exact ssh_alg | exact ssh_tab | exact ssh_mat | exact ⟨rfl, fun _ => trivial⟩ | exact ⟨rfl, fun _ => by rw [zr29]; exact ssh_vec⟩), (by first | exact mt_vec (fun z _ => mix_all) | exact mt_vec (fun z _ => (acc_zero hc36).symm))⟩, trivial⟩, ⟨⟨(fun h => by first | exact ⟨rfl, rfl⟩ | exact absurd h (by decide)), (fun h => by first | exact ⟨rfl, rfl⟩ | exact absurd h (by decide)), trivial⟩, ⟨(fun h => by first | exact ⟨rfl, rfl⟩ | exact absurd h (by decide)), (fun h => by first | exact ⟨rfl, rfl⟩ | exact absurd h (by decide)), trivial⟩, trivial⟩⟩
    · try simp only [hcs] at hc24
      have hin : n = j := by omega
      subst hin
      refine snd_exit ?_
      apply lr tokTB (by kernel_rfl)
      · intro RR hRR
        refine y_add rfl rfl ?_
        refine w_move (by constructor) ?_
        exact hRR
      refine ⟨i + 1, ρ0, ?_, (by omega), (by dsimp only; omega)⟩
      exact ⟨⟨m_calg, (m_cvec (fun _ _ => rfl)), (m_cvec (fun _ _ => rfl)), ⟨rfl, rfl, rfl, rfl, rfl⟩, ⟨rfl, rfl, rfl, rfl, rfl⟩, (by first | exact m_int rfl | exact m_int (by omega) | exact m_int (by simp; done) | (exact m_int (by simp; omega))), (by first | exact m_int rfl | exact m_int (by omega) | exact m_int (by simp; done) | (exact m_int (by simp; omega))), trivial⟩, ⟨⟨rfl, (by first | exact trivial | exact ssh_vec | exact ssh_alg | exact ssh_tab | exact ssh_mat | exact ⟨rfl, fun _ => trivial⟩ | exact ⟨rfl, fun _ => by rw [zr29]; exact ssh_vec⟩), (by exact mt_vec (fun _ _ => rfl))⟩, ⟨rfl, (by first | exact trivial | exact ssh_vec | exact ssh_alg | exact ssh_tab | exact ssh_mat | exact ⟨rfl, fun _ => trivial⟩ | exact ⟨rfl, fun _ => by rw [zr29]; exact ssh_vec⟩), (by exact mt_vec (fun k _ => acc_next))⟩, trivial⟩, ⟨⟨(fun h => by first | exact ⟨rfl, rfl⟩ | exact absurd h (by decide)), (fun h => by first | exact ⟨rfl, rfl⟩ | exact absurd h (by decide)), trivial⟩, ⟨(fun h => by first | exact ⟨rfl, rfl⟩ | exact absurd h (by decide)), (fun h => by first | exact ⟨rfl, rfl⟩ | exact absurd h (by decide)), trivial⟩, trivial⟩⟩
  · try simp only [hcs] at hc19
    have hkn : n = i := by omega
    subst hkn
    refine snd_exit ?_
    apply sr tokTB (by kernel_rfl)
    · intro RR hRR
      refine w_bld_a kn29 zr29 und29 kn5 (fun _ => (by exact sz5.symm)) trivial rfl (by exact sz5.symm) ?_
      refine w_alloc kn29 rfl zr29 ?_
      refine w_stw rfl (by constructor) kn29 rfl (by exact trivial) (by first | exact trivial | exact ssh_vec | exact ssh_alg | exact ssh_tab | exact ssh_mat | exact ⟨rfl, fun _ => trivial⟩ | exact ⟨rfl, fun _ => by rw [zr29]; exact ssh_vec⟩) (by exact sz29.symm) ?_
      exact hRR
    refine snd_seq ?_
    apply sr tokTB (by kernel_rfl)
    · intro RR hRR
      refine w_ldp rfl kn120 rfl (by constructor) (by exact sz120.symm) (by exact ag120.symm) ?_
      refine w_move (by constructor) ?_
      exact hRR
    refine snd_block ?_
    refine snd_loop (S := Nat) (fun k => ([(0, .cptr (algA p (n : Int) T fo)), (6, .ptr 6 0 [] 0 (vecA (fun _ => 0))), (12, .ptr 12 0 [] 0 (vecA (fun _ => 0))), (64, v64A (accF T u v n n 0)), (65, .int .i64 (k : Int))], [(6, .one (vecA (fun _ => 0)) (vecA (fun _ => 0))), (12, .one (vecA (fun _ => 0)) (vecA (cutF (timesF p n T u v) k)))])) (fun k => k ≤ 6) (fun k => 6 - k) (0) ρ0 ?_ ?_ ?_
    · exact ⟨⟨m_calg, ⟨rfl, rfl, rfl, rfl, rfl⟩, ⟨rfl, rfl, rfl, rfl, rfl⟩, (m_vec (fun _ _ => rfl)), (by first | exact m_int rfl | exact m_int (by omega) | exact m_int (by simp; done) | (exact m_int (by simp; omega))), trivial⟩, ⟨⟨rfl, (by first | exact trivial | exact ssh_vec | exact ssh_alg | exact ssh_tab | exact ssh_mat | exact ⟨rfl, fun _ => trivial⟩ | exact ⟨rfl, fun _ => by rw [zr29]; exact ssh_vec⟩), (by exact mt_vec (fun _ _ => rfl))⟩, ⟨rfl, (by first | exact trivial | exact ssh_vec | exact ssh_alg | exact ssh_tab | exact ssh_mat | exact ⟨rfl, fun _ => trivial⟩ | exact ⟨rfl, fun _ => by rw [zr29]; exact ssh_vec⟩), (by exact mt_vec (fun k _ => rfl))⟩, trivial⟩, ⟨⟨(fun h => by first | exact ⟨rfl, rfl⟩ | exact absurd h (by decide)), (fun h => by first | exact ⟨rfl, rfl⟩ | exact absurd h (by decide)), trivial⟩, ⟨(fun h => by first | exact ⟨rfl, rfl⟩ | exact absurd h (by decide)), (fun h => by first | exact ⟨rfl, rfl⟩ | exact absurd h (by decide)), trivial⟩, trivial⟩⟩
    · exact Nat.zero_le _
    intro k hi6
    refine sq (env2 := [(0, .cptr (algA p (n : Int) T fo)), (6, .ptr 6 0 [] 0 (vecA (fun _ => 0))), (12, .ptr 12 0 [] 0 (vecA (fun _ => 0))), (64, v64A (accF T u v n n 0)), (65, .int .i64 (k : Int))]) (ol2 := [(6, .one (vecA (fun _ => 0)) (vecA (fun _ => 0))), (12, .one (vecA (fun _ => 0)) (vecA (cutF (timesF p n T u v) k)))]) rfl rfl ?_
    apply sr tokTB (by kernel_rfl)
    · intro RR hRR
      refine w_lss rfl rfl ?_
      exact hRR
    refine snd_seq ?_
    refine snd_cond _ rfl (fun hc66 => ?_) (fun hc66 => ?_)
    · try simp only [hcs] at hc66
      refine snd_skip ?_
      refine snd_seq ?_
      refine snd_block ?_
      apply sr tokTB (by kernel_rfl)
      · intro RR hRR
        refine w_move (by constructor) ?_
        refine w_ixa rfl rfl und120 kn2 (by exact sz2.symm) ?_ (by constructor) (by exact ag2.symm) ?_
        · exact ⟨by omega, by omega⟩
        refine w_assign (by constructor) ?_
        refine w_assign (by constructor) ?_
        exact hRR
      apply lr tokTB (by kernel_rfl)
      · intro RR hRR
        refine w_move (by constructor) ?_
        refine w_move (by constructor) ?_
        refine w_move (by constructor) ?_
        refine w_nilc rfl ?_
        refine w_fac rfl und31 rfl kn2 nz2 (by decide) rfl (by constructor) ?_
        refine w_ldc rfl kn2 (by constructor) (by exact sz2.symm) (by exact ag2.symm) ?_
        refine w_rem rfl rfl (by first | assumption | omega) ?_
        refine w_conv rfl und2 und5 (by exact w_fin2 hu hv hT hn hp hp2) ?_
        refine w_iap rfl rfl und29 kn5 rfl (by exact sz5.symm) rfl ?_ ?_
        · exact ⟨by omega, by omega⟩
        first | refine w_stw rfl (by constructor) kn5 rfl (by exact trivial) (by first | exact trivial | exact ssh_vec | exact ssh_alg | exact ssh_tab | exact ssh_mat | exact ⟨rfl, fun _ => trivial⟩ | exact ⟨rfl, fun _ => by rw [zr29]; exact ssh_vec⟩) (by exact sz5.symm) ?_ | refine w_sti rfl rfl kn5 rfl (by exact trivial) (by exact sz5.symm) ?_ | refine w_store rfl (HV.eq (by constructor)) kn5 rfl (by exact trivial) (by first | exact trivial | exact ssh_vec | exact ssh_alg | exact ssh_tab | exact ssh_mat | exact ⟨rfl, fun _ => trivial⟩ | exact ⟨rfl, fun _ => by rw [zr29]; exact ssh_vec⟩) (by exact sz5.symm) (put_in (by first | exact put_mat | exact put_tab | exact put_alg0 | exact put_alg1 | exact put_alg2 | exact put_alg3 | exact put_alg3i | exact put_alg2ij | exact put_alg2ijk | exact put_mat2 | exact put_tab2 | exact put_tab3)) ?_ | refine w_store rfl (HV.eq (by constructor)) kn5 rfl (by exact trivial) (by exact trivial) (by exact sz5.symm) rfl ?_
        exact hRR
      apply lr tokTB (by kernel_rfl)
      · intro RR hRR
        refine y_add rfl rfl ?_
        refine w_move (by constructor) ?_
        exact hRR
      refine ⟨k + 1, ρ0, ?_, (by omega), (by dsimp only; omega)⟩
      exact ⟨⟨m_calg, ⟨rfl, rfl, rfl, rfl, rfl⟩, ⟨rfl, rfl, rfl, rfl, rfl⟩, (m_vec (fun _ _ => rfl)), (by first | exact m_int rfl | exact m_int (by omega) | exact m_int (by simp; done) | (exact m_int (by simp; omega))), trivial⟩, ⟨⟨rfl, (by first | exact trivial | exact ssh_vec | exact ssh_alg | exact ssh_tab | exact ssh_mat | exact ⟨rfl, fun _ => trivial⟩ | exact ⟨rfl, fun _ => by rw [zr29]; exact ssh_vec⟩), (by exact mt_vec (fun _ _ => rfl))⟩, ⟨rfl, (by first | exact trivial | exact ssh_vec | exact ssh_alg | exact ssh_tab | exact ssh_mat | exact ⟨rfl, fun _ => trivial⟩ | exact ⟨rfl, fun _ => by rw [zr29]; exact ssh_vec⟩), (by exact mt_vec (fun z _ => upd_cut _ k z))⟩, trivial⟩, ⟨⟨(fun h => by first | exact ⟨rfl, rfl⟩ | exact absurd h (by decide)), (fun h => by first | exact ⟨rfl, rfl⟩ | exact absurd h (by decide)), trivial⟩, ⟨(fun h => by first | exact ⟨rfl, rfl⟩ | exact absurd h (by decide)), (fun h => by first | exact ⟨rfl, rfl⟩ | exact absurd h (by decide)), trivial⟩, trivial⟩⟩
    · try simp only [hcs] at hc66
      have hk6 : k = 6 := by omega
      subst hk6
      refine snd_exit ?_
      apply sr tokTB (by kernel_rfl)
      · intro RR hRR
        refine w_ldp rfl kn29 rfl (by constructor) (by exact sz29.symm) (by exact ag29.symm) ?_
        refine w_stw rfl (by constructor) kn29 rfl (by exact trivial) (by first | exact trivial | exact ssh_vec | exact ssh_alg | exact ssh_tab | exact ssh_mat | exact ⟨rfl, fun _ => trivial⟩ | exact ⟨rfl, fun _ => by rw [zr29]; exact ssh_vec⟩) (by exact sz29.symm) ?_
        exact hRR
      refine snd_ret ?_
      exact rt_c (T := TB) rfl kn29 rfl sz29.symm ag29.symm (fun V => m_vec (fun j hj => by simp [cutF, hj]))
end Go.Am
set_option linter.unusedVariables false
set_option linter.unusedSimpArgs false
set_option maxRecDepth 4000
namespace Go.Am
attribute [local irreducible] retQ
open Go.Proofs
theorem c_toByteA6 {v : Nat → Int} : ACalls Try.prog TB 121 [vecA v] (vecA v) [] := by
  refine acalls_of tokTB Try.func121 rfl rfl (Nat.le_of_ble_eq_true rfl) ?_
  apply sr tokTB (by kernel_rfl)
  · intro RR hRR
    refine w_boxc (HV.eq (by constructor)) (by exact trivial) ?_
    refine w_alloc kn22 rfl zr22 ?_
    exact hRR
  apply sr tokTB (by kernel_rfl)
  · intro RR hRR
    refine w_alloc kn22 rfl zr22 ?_
    exact hRR
  refine snd_seq ?_
  apply sr tokTB (by kernel_rfl)
  · intro RR hRR
    refine w_assign (by constructor) ?_
    exact hRR
  refine snd_block ?_
  refine snd_loop (S := Nat) (fun i => ([(1, .cptr (vecA v)), (2, .ptr 2 0 [] 0 (vecA (fun _ => 0))), (3, .ptr 3 0 [] 0 (vecA (fun _ => 0))), (4, .int .i64 (i : Int))], [(2, .one (vecA (fun _ => 0)) (vecA (fun _ => 0))), (3, .one (vecA (fun _ => 0)) (vecA (cutG 0 v i)))])) (fun i => i ≤ 6) (fun i => 6 - i) (0) ρ0 ?_ ?_ ?_
  · exact ⟨⟨(by exact m_cvec (fun _ _ => rfl)), ⟨rfl, rfl, rfl, rfl, rfl⟩, ⟨rfl, rfl, rfl, rfl, rfl⟩, (by first | exact m_int rfl | exact m_int (by omega) | exact m_int (by simp; done) | (exact m_int (by simp; omega))), trivial⟩, ⟨⟨rfl, (by first | exact trivial | exact ssh_vec | exact ssh_alg | exact ssh_tab | exact ssh_mat | exact ⟨rfl, fun _ => trivial⟩ | exact ⟨rfl, fun _ => by rw [zr29]; exact ssh_vec⟩), (by exact mt_vec (fun _ _ => rfl))⟩, ⟨rfl, (by first | exact trivial | exact ssh_vec | exact ssh_alg | exact ssh_tab | exact ssh_mat | exact ⟨rfl, fun _ => trivial⟩ | exact ⟨rfl, fun _ => by rw [zr29]; exact ssh_vec⟩), (by exact mt_vec (fun _ _ => rfl))⟩, trivial⟩, ⟨⟨(fun h => by first | exact ⟨rfl, rfl⟩ | exact absurd h (by decide)), (fun h => by first | exact ⟨rfl, rfl⟩ | exact absurd h (by decide)), trivial⟩, ⟨(fun h => by first | exact ⟨rfl, rfl⟩ | exact absurd h (by decide)), (fun h => by first | exact ⟨rfl, rfl⟩ | exact absurd h (by decide)), trivial⟩, trivial⟩⟩
  · exact Nat.zero_le _
  intro i hi0
  refine sq (env2 := [(1, .cptr (vecA v)), (2, .ptr 2 0 [] 0 (vecA (fun _ => 0))), (3, .ptr 3 0 [] 0 (vecA (fun _ => 0))), (4, .int .i64 (i : Int))]) (ol2 := [(2, .one (vecA (fun _ => 0)) (vecA (fun _ => 0))), (3, .one (vecA (fun _ => 0)) (vecA (cutG 0 v i)))]) rfl rfl ?_
  refine snd_seq ?_
  apply sr tokTB (by kernel_rfl)
  · intro RR hRR
    refine w_move (by constructor) ?_
    refine w_lss rfl rfl ?_
    exact hRR
  refine snd_cond _ rfl (fun hc6 => ?_) (fun hc6 => ?_)
  · try simp only [hcs] at hc6
    refine snd_skip ?_
    refine snd_seq ?_
    refine snd_block ?_
    apply lr tokTB (by kernel_rfl)
    · intro RR hRR
      refine w_move (by constructor) ?_
      refine w_move (by constructor) ?_
      refine w_iac rfl rfl und22 kn5 (by exact sz5.symm) ?_ rfl ?_
      · exact ⟨by omega, by omega⟩
      first | refine w_ldc rfl kn5 (by constructor) (by exact sz5.symm) (by exact ag5.symm) ?_ | refine w_ldp rfl kn5 rfl (by constructor) (by exact sz5.symm) (by exact ag5.symm) ?_
      refine w_iap rfl rfl und22 kn5 rfl (by exact sz5.symm) rfl ?_ ?_
      · exact ⟨by omega, by omega⟩
      first | refine w_stw rfl (by constructor) kn5 rfl (by exact trivial) (by first | exact trivial | exact ssh_vec | exact ssh_alg | exact ssh_tab | exact ssh_mat | exact ⟨rfl, fun _ => trivial⟩ | exact ⟨rfl, fun _ => by rw [zr29]; exact ssh_vec⟩) (by exact sz5.symm) ?_ | refine w_sti rfl rfl kn5 rfl (by exact trivial) (by exact sz5.symm) ?_ | refine w_store rfl (HV.eq (by constructor)) kn5 rfl (by exact trivial) (by first | exact trivial | exact ssh_vec | exact ssh_alg | exact ssh_tab | exact ssh_mat | exact ⟨rfl, fun _ => trivial⟩ | exact ⟨rfl, fun _ => by rw [zr29]; exact ssh_vec⟩) (by exact sz5.symm) (put_in (by first | exact put_mat | exact put_tab | exact put_alg0 | exact put_alg1 | exact put_alg2 | exact put_alg3 | exact put_alg3i | exact put_alg2ij | exact put_alg2ijk | exact put_mat2 | exact put_tab2 | exact put_tab3)) ?_ | refine w_store rfl (HV.eq (by constructor)) kn5 rfl (by exact trivial) (by exact trivial) (by exact sz5.symm) rfl ?_
      exact hRR
    apply lr tokTB (by kernel_rfl)
    · intro RR hRR
      refine w_move (by constructor) ?_
      refine y_add rfl rfl ?_
      refine w_assign (by constructor) ?_
      exact hRR
    refine ⟨i + 1, ρ0, ?_, (by omega), (by dsimp only; omega)⟩
    exact ⟨⟨(by exact m_cvec (fun _ _ => rfl)), ⟨rfl, rfl, rfl, rfl, rfl⟩, ⟨rfl, rfl, rfl, rfl, rfl⟩, (by first | exact m_int rfl | exact m_int (by omega) | exact m_int (by simp; done) | (exact m_int (by simp; omega))), trivial⟩, ⟨⟨rfl, (by first | exact trivial | exact ssh_vec | exact ssh_alg | exact ssh_tab | exact ssh_mat | exact ⟨rfl, fun _ => trivial⟩ | exact ⟨rfl, fun _ => by rw [zr29]; exact ssh_vec⟩), (by exact mt_vec (fun _ _ => rfl))⟩, ⟨rfl, (by first | exact trivial | exact ssh_vec | exact ssh_alg | exact ssh_tab | exact ssh_mat | exact ⟨rfl, fun _ => trivial⟩ | exact ⟨rfl, fun _ => by rw [zr29]; exact ssh_vec⟩), (by exact mt_vec (fun z _ => upd_cutG _ _ i z))⟩, trivial⟩, ⟨⟨(fun h => by first | exact ⟨rfl, rfl⟩ | exact absurd h (by decide)), (fun h => by first | exact ⟨rfl, rfl⟩ | exact absurd h (by decide)), trivial⟩, ⟨(fun h => by first | exact ⟨rfl, rfl⟩ | exact absurd h (by decide)), (fun h => by first | exact ⟨rfl, rfl⟩ | exact absurd h (by decide)), trivial⟩, trivial⟩⟩
  · try simp only [hcs] at hc6
    have hi6 : i = 6 := by omega
    subst hi6
    refine snd_exit ?_
    apply sr tokTB (by kernel_rfl)
    · intro RR hRR
      refine w_ldp rfl kn22 rfl (by constructor) (by exact sz22.symm) (by exact ag22.symm) ?_
      refine w_stw rfl (by constructor) kn22 rfl (by exact trivial) (by first | exact trivial | exact ssh_vec | exact ssh_alg | exact ssh_tab | exact ssh_mat | exact ⟨rfl, fun _ => trivial⟩ | exact ⟨rfl, fun _ => by rw [zr29]; exact ssh_vec⟩) (by exact sz22.symm) ?_
      exact hRR
    refine snd_ret ?_
    exact rt_c (T := TB) rfl kn22 rfl sz22.symm ag22.symm (fun V => m_vec (fun j hj => by simp [cutG, hj]))
theorem c_toVector {v : Nat → Int} : ACalls Try.prog TB 17 [vecA v] (vecA v) [] := by
  refine acalls_of tokTB Try.func17 rfl rfl (Nat.le_of_ble_eq_true rfl) ?_
  apply sr tokTB (by kernel_rfl)
  · intro RR hRR
    refine w_boxc (HV.eq (by constructor)) (by exact trivial) ?_
    refine w_alloc kn29 rfl zr29 ?_
    exact hRR
  apply sr tokTB (by kernel_rfl)
  · intro RR hRR
    refine w_alloc kn29 rfl zr29 ?_
    exact hRR
  refine snd_seq ?_
  apply sr tokTB (by kernel_rfl)
  · intro RR hRR
    refine w_assign (by constructor) ?_
    exact hRR
  refine snd_block ?_
  refine snd_loop (S := Nat) (fun i => ([(1, .cptr (vecA v)), (2, .ptr 2 0 [] 0 (vecA (fun _ => 0))), (3, .ptr 3 0 [] 0 (vecA (fun _ => 0))), (4, .int .i64 (i : Int))], [(2, .one (vecA (fun _ => 0)) (vecA (fun _ => 0))), (3, .one (vecA (fun _ => 0)) (vecA (cutG 0 v i)))])) (fun i => i ≤ 6) (fun i => 6 - i) (0) ρ0 ?_ ?_ ?_
  · exact ⟨⟨(by exact m_cvec (fun _ _ => rfl)), ⟨rfl, rfl, rfl, rfl, rfl⟩, ⟨rfl, rfl, rfl, rfl, rfl⟩, (by first | exact m_int rfl | exact m_int (by omega) | exact m_int (by simp; done) | (exact m_int (by simp; omega))), trivial⟩, ⟨⟨rfl, (by first | exact trivial | exact ssh_vec | exact ssh_alg | exact ssh_tab | exact ssh_mat | exact ⟨rfl, fun _ => trivial⟩ | exact ⟨rfl, fun _ => by rw [zr29]; exact ssh_vec⟩), (by exact mt_vec (fun _ _ => rfl))⟩, ⟨rfl, (by first | exact trivial | exact ssh_vec | exact ssh_alg | exact ssh_tab | exact ssh_mat | exact ⟨rfl, fun _ => trivial⟩ | exact ⟨rfl, fun _ => by rw [zr29]; exact ssh_vec⟩), (by exact mt_vec (fun _ _ => rfl))⟩, trivial⟩, ⟨⟨(fun h => by first | exact ⟨rfl, rfl⟩ | exact absurd h (by decide)), (fun h => by first | exact ⟨rfl, rfl⟩ | exact absurd h (by decide)), trivial⟩, ⟨(fun h => by first | exact ⟨rfl, rfl⟩ | exact absurd h (by decide)), (fun h => by first | exact ⟨rfl, rfl⟩ | exact absurd h (by decide)), trivial⟩, trivial⟩⟩
  · exact Nat.zero_le _
  intro i hi0
  refine sq (env2 := [(1, .cptr (vecA v)), (2, .ptr 2 0 [] 0 (vecA (fun _ => 0))), (3, .ptr 3 0 [] 0 (vecA (fun _ => 0))), (4, .int .i64 (i : Int))]) (ol2 := [(2, .one (vecA (fun _ => 0)) (vecA (fun _ => 0))), (3, .one (vecA (fun _ => 0)) (vecA (cutG 0 v i)))]) rfl rfl ?_
  refine snd_seq ?_
  apply sr tokTB (by kernel_rfl)
  · intro RR hRR
    refine w_move (by constructor) ?_
    refine w_lss rfl rfl ?_
    exact hRR
  refine snd_cond _ rfl (fun hc6 => ?_) (fun hc6 => ?_)
  · try simp only [hcs] at hc6
    refine snd_skip ?_
    refine snd_seq ?_
    refine snd_block ?_
    apply lr tokTB (by kernel_rfl)
    · intro RR hRR
      refine w_move (by constructor) ?_
      refine w_move (by constructor) ?_
      refine w_iac rfl rfl und22 kn5 (by exact sz5.symm) ?_ rfl ?_
      · exact ⟨by omega, by omega⟩
      first | refine w_ldc rfl kn5 (by constructor) (by exact sz5.symm) (by exact ag5.symm) ?_ | refine w_ldp rfl kn5 rfl (by constructor) (by exact sz5.symm) (by exact ag5.symm) ?_
      refine w_iap rfl rfl und29 kn5 rfl (by exact sz5.symm) rfl ?_ ?_
      · exact ⟨by omega, by omega⟩
      first | refine w_stw rfl (by constructor) kn5 rfl (by exact trivial) (by first | exact trivial | exact ssh_vec | exact ssh_alg | exact ssh_tab | exact ssh_mat | exact ⟨rfl, fun _ => trivial⟩ | exact ⟨rfl, fun _ => by rw [zr29]; exact ssh_vec⟩) (by exact sz5.symm) ?_ | refine w_sti rfl rfl kn5 rfl (by exact trivial) (by exact sz5.symm) ?_ | refine w_store rfl (HV.eq (by constructor)) kn5 rfl (by exact trivial) (by first | exact trivial | exact ssh_vec | exact ssh_alg | exact ssh_tab | exact ssh_mat | exact ⟨rfl, fun _ => trivial⟩ | exact ⟨rfl, fun _ => by rw [zr29]; exact ssh_vec⟩) (by exact sz5.symm) (put_in (by first | exact put_mat | exact put_tab | exact put_alg0 | exact put_alg1 | exact put_alg2 | exact put_alg3 | exact put_alg3i | exact put_alg2ij | exact put_alg2ijk | exact put_mat2 | exact put_tab2 | exact put_tab3)) ?_ | refine w_store rfl (HV.eq (by constructor)) kn5 rfl (by exact trivial) (by exact trivial) (by exact sz5.symm) rfl ?_
      exact hRR
    apply lr tokTB (by kernel_rfl)
    · intro RR hRR
      refine w_move (by constructor) ?_
      refine y_add rfl rfl ?_
      refine w_assign (by constructor) ?_
      exact hRR
    refine ⟨i + 1, ρ0, ?_, (by omega), (by dsimp only; omega)⟩
    exact ⟨⟨(by exact m_cvec (fun _ _ => rfl)), ⟨rfl, rfl, rfl, rfl, rfl⟩, ⟨rfl, rfl, rfl, rfl, rfl⟩, (by first | exact m_int rfl | exact m_int (by omega) | exact m_int (by simp; done) | (exact m_int (by simp; omega))), trivial⟩, ⟨⟨rfl, (by first | exact trivial | exact ssh_vec | exact ssh_alg | exact ssh_tab | exact ssh_mat | exact ⟨rfl, fun _ => trivial⟩ | exact ⟨rfl, fun _ => by rw [zr29]; exact ssh_vec⟩), (by exact mt_vec (fun _ _ => rfl))⟩, ⟨rfl, (by first | exact trivial | exact ssh_vec | exact ssh_alg | exact ssh_tab | exact ssh_mat | exact ⟨rfl, fun _ => trivial⟩ | exact ⟨rfl, fun _ => by rw [zr29]; exact ssh_vec⟩), (by exact mt_vec (fun z _ => upd_cutG _ _ i z))⟩, trivial⟩, ⟨⟨(fun h => by first | exact ⟨rfl, rfl⟩ | exact absurd h (by decide)), (fun h => by first | exact ⟨rfl, rfl⟩ | exact absurd h (by decide)), trivial⟩, ⟨(fun h => by first | exact ⟨rfl, rfl⟩ | exact absurd h (by decide)), (fun h => by first | exact ⟨rfl, rfl⟩ | exact absurd h (by decide)), trivial⟩, trivial⟩⟩
  · try simp only [hcs] at hc6
    have hi6 : i = 6 := by omega
    subst hi6
    refine snd_exit ?_
    apply sr tokTB (by kernel_rfl)
    · intro RR hRR
      refine w_ldp rfl kn29 rfl (by constructor) (by exact sz29.symm) (by exact ag29.symm) ?_
      refine w_stw rfl (by constructor) kn29 rfl (by exact trivial) (by first | exact trivial | exact ssh_vec | exact ssh_alg | exact ssh_tab | exact ssh_mat | exact ⟨rfl, fun _ => trivial⟩ | exact ⟨rfl, fun _ => by rw [zr29]; exact ssh_vec⟩) (by exact sz29.symm) ?_
      exact hRR
    refine snd_ret ?_
    exact rt_c (T := TB) rfl kn29 rfl sz29.symm ag29.symm (fun V => m_vec (fun j hj => by simp [cutG, hj]))
theorem c_toByteA6A6 {M : Nat → Nat → Int} : ACalls Try.prog TB 97 [matA M] (matA M) [] := by
  refine acalls_of tokTB Try.func97 rfl rfl (Nat.le_of_ble_eq_true rfl) ?_
  apply sr tokTB (by kernel_rfl)
  · intro RR hRR
    refine w_boxc (HV.eq (by constructor)) (by exact trivial) ?_
    refine w_alloc kn23 rfl zr23 ?_
    exact hRR
  apply sr tokTB (by kernel_rfl)
  · intro RR hRR
    refine w_alloc kn23 rfl zr23 ?_
    exact hRR
  refine snd_seq ?_
  apply sr tokTB (by kernel_rfl)
  · intro RR hRR
    refine w_assign (by constructor) ?_
    exact hRR
  refine snd_block ?_
  refine snd_loop (S := Nat) (fun i => ([(1, .cptr (matA M)), (2, .ptr 2 0 [] 0 (matA (fun _ _ => 0))), (3, .ptr 3 0 [] 0 (matA (fun _ _ => 0))), (4, .int .i64 (i : Int))], [(2, .one (matA (fun _ _ => 0)) (matA (fun _ _ => 0))), (3, .one (matA (fun _ _ => 0)) (matA (cutG (fun _ => 0) M i)))])) (fun i => i ≤ 6) (fun i => 6 - i) (0) ρ0 ?_ ?_ ?_
  · exact ⟨⟨(by exact mt_mat (V := _) (fun _ _ _ _ => rfl)), ⟨rfl, rfl, rfl, rfl, rfl⟩, ⟨rfl, rfl, rfl, rfl, rfl⟩, (by first | exact m_int rfl | exact m_int (by omega) | exact m_int (by simp; done) | (exact m_int (by simp; omega))), trivial⟩, ⟨⟨rfl, (by first | exact trivial | exact ssh_vec | exact ssh_alg | exact ssh_tab | exact ssh_mat | exact ⟨rfl, fun _ => trivial⟩ | exact ⟨rfl, fun _ => by rw [zr29]; exact ssh_vec⟩), (by exact mt_mat (fun _ _ _ _ => rfl))⟩, ⟨rfl, (by first | exact trivial | exact ssh_vec | exact ssh_alg | exact ssh_tab | exact ssh_mat | exact ⟨rfl, fun _ => trivial⟩ | exact ⟨rfl, fun _ => by rw [zr29]; exact ssh_vec⟩), (by exact mt_mat (fun _ _ _ _ => rfl))⟩, trivial⟩, ⟨⟨(fun h => by first | exact ⟨rfl, rfl⟩ | exact absurd h (by decide)), (fun h => by first | exact ⟨rfl, rfl⟩ | exact absurd h (by decide)), trivial⟩, ⟨(fun h => by first | exact ⟨rfl, rfl⟩ | exact absurd h (by decide)), (fun h => by first | exact ⟨rfl, rfl⟩ | exact absurd h (by decide)), trivial⟩, trivial⟩⟩
  · exact Nat.zero_le _
  intro i hi0
  refine sq (env2 := [(1, .cptr (matA M)), (2, .ptr 2 0 [] 0 (matA (fun _ _ => 0))), (3, .ptr 3 0 [] 0 (matA (fun _ _ => 0))), (4, .int .i64 (i : Int))]) (ol2 := [(2, .one (matA (fun _ _ => 0)) (matA (fun _ _ => 0))), (3, .one (matA (fun _ _ => 0)) (matA (cutG (fun _ => 0) M i)))]) rfl rfl ?_
  refine snd_seq ?_
  apply sr tokTB (by kernel_rfl)
  · intro RR hRR
    refine w_move (by constructor) ?_
    refine w_lss rfl rfl ?_
    exact hRR
  refine snd_cond _ rfl (fun hc6 => ?_) (fun hc6 => ?_)
  · try simp only [hcs] at hc6
    refine snd_skip ?_
    refine snd_seq ?_
    refine snd_block ?_
    apply lr tokTB (by kernel_rfl)
    · intro RR hRR
      refine w_move (by constructor) ?_
      refine w_move (by constructor) ?_
      refine w_iac rfl rfl und23 kn22 (by exact sz22.symm) ?_ rfl ?_
      · exact ⟨by omega, by omega⟩
      refine w_ldc rfl kn22 (by constructor) (by exact sz22.symm) (by exact ag22.symm) ?_
      refine y_call rfl (ec exn) (c_toByteA6) ?_
      refine w_iap rfl rfl und23 kn22 rfl (by exact sz22.symm) rfl ?_ ?_
      · exact ⟨by omega, by omega⟩
      first | refine w_stw rfl (by constructor) kn22 rfl (by exact trivial) (by first | exact trivial | exact ssh_vec | exact ssh_alg | exact ssh_tab | exact ssh_mat | exact ⟨rfl, fun _ => trivial⟩ | exact ⟨rfl, fun _ => by rw [zr29]; exact ssh_vec⟩) (by exact sz22.symm) ?_ | refine w_sti rfl rfl kn22 rfl (by exact trivial) (by exact sz22.symm) ?_ | refine w_store rfl (HV.eq (by constructor)) kn22 rfl (by exact trivial) (by first | exact trivial | exact ssh_vec | exact ssh_alg | exact ssh_tab | exact ssh_mat | exact ⟨rfl, fun _ => trivial⟩ | exact ⟨rfl, fun _ => by rw [zr29]; exact ssh_vec⟩) (by exact sz22.symm) (put_in (by first | exact put_mat | exact put_tab | exact put_alg0 | exact put_alg1 | exact put_alg2 | exact put_alg3 | exact put_alg3i | exact put_alg2ij | exact put_alg2ijk | exact put_mat2 | exact put_tab2 | exact put_tab3)) ?_ | refine w_store rfl (HV.eq (by constructor)) kn22 rfl (by exact trivial) (by exact trivial) (by exact sz22.symm) rfl ?_
      exact hRR
    apply lr tokTB (by kernel_rfl)
    · intro RR hRR
      refine w_move (by constructor) ?_
      refine y_add rfl rfl ?_
      refine w_assign (by constructor) ?_
      exact hRR
    refine ⟨i + 1, ρ0, ?_, (by omega), (by dsimp only; omega)⟩
    exact ⟨⟨(by exact mt_mat (V := _) (fun _ _ _ _ => rfl)), ⟨rfl, rfl, rfl, rfl, rfl⟩, ⟨rfl, rfl, rfl, rfl, rfl⟩, (by first | exact m_int rfl | exact m_int (by omega) | exact m_int (by simp; done) | (exact m_int (by simp; omega))), trivial⟩, ⟨⟨rfl, (by first | exact trivial | exact ssh_vec | exact ssh_alg | exact ssh_tab | exact ssh_mat | exact ⟨rfl, fun _ => trivial⟩ | exact ⟨rfl, fun _ => by rw [zr29]; exact ssh_vec⟩), (by exact mt_mat (fun _ _ _ _ => rfl))⟩, ⟨rfl, (by first | exact trivial | exact ssh_vec | exact ssh_alg | exact ssh_tab | exact ssh_mat | exact ⟨rfl, fun _ => trivial⟩ | exact ⟨rfl, fun _ => by rw [zr29]; exact ssh_vec⟩), (by exact mt_mat (fun z w _ _ => congrFun (upd_cutG _ _ i z) w))⟩, trivial⟩, ⟨⟨(fun h => by first | exact ⟨rfl, rfl⟩ | exact absurd h (by decide)), (fun h => by first | exact ⟨rfl, rfl⟩ | exact absurd h (by decide)), trivial⟩, ⟨(fun h => by first | exact ⟨rfl, rfl⟩ | exact absurd h (by decide)), (fun h => by first | exact ⟨rfl, rfl⟩ | exact absurd h (by decide)), trivial⟩, trivial⟩⟩
  · try simp only [hcs] at hc6
    have hi6 : i = 6 := by omega
    subst hi6
    refine snd_exit ?_
    apply sr tokTB (by kernel_rfl)
    · intro RR hRR
      refine w_ldp rfl kn23 rfl (by constructor) (by exact sz23.symm) (by exact ag23.symm) ?_
      refine w_stw rfl (by constructor) kn23 rfl (by exact trivial) (by first | exact trivial | exact ssh_vec | exact ssh_alg | exact ssh_tab | exact ssh_mat | exact ⟨rfl, fun _ => trivial⟩ | exact ⟨rfl, fun _ => by rw [zr29]; exact ssh_vec⟩) (by exact sz23.symm) ?_
      exact hRR
    refine snd_ret ?_
    exact rt_c (T := TB) rfl kn23 rfl sz23.symm ag23.symm (fun V => mt_mat (fun j k hj _ => by simp [cutG, hj]))
theorem c_toByteA6A6A6 {T : Nat → Nat → Nat → Int} : ACalls Try.prog TB 56 [tabA T] (tabA T) [] := by
  refine acalls_of tokTB Try.func56 rfl rfl (Nat.le_of_ble_eq_true rfl) ?_
  apply sr tokTB (by kernel_rfl)
  · intro RR hRR
    refine w_boxc (HV.eq (by constructor)) (by exact trivial) ?_
    refine w_alloc kn24 rfl zr24 ?_
    exact hRR
  apply sr tokTB (by kernel_rfl)
  · intro RR hRR
    refine w_alloc kn24 rfl zr24 ?_
    exact hRR
  refine snd_seq ?_
  apply sr tokTB (by kernel_rfl)
  · intro RR hRR
    refine w_assign (by constructor) ?_
    exact hRR
  refine snd_block ?_
  refine snd_loop (S := Nat) (fun i => ([(1, .cptr (tabA T)), (2, .ptr 2 0 [] 0 (tabA (fun _ _ _ => 0))), (3, .ptr 3 0 [] 0 (tabA (fun _ _ _ => 0))), (4, .int .i64 (i : Int))], [(2, .one (tabA (fun _ _ _ => 0)) (tabA (fun _ _ _ => 0))), (3, .one (tabA (fun _ _ _ => 0)) (tabA (cutG (fun _ _ => 0) T i)))])) (fun i => i ≤ 6) (fun i => 6 - i) (0) ρ0 ?_ ?_ ?_
  · exact ⟨⟨(by exact mt_tab (V := _) (fun _ _ _ _ _ _ => rfl)), ⟨rfl, rfl, rfl, rfl, rfl⟩, ⟨rfl, rfl, rfl, rfl, rfl⟩, (by first | exact m_int rfl | exact m_int (by omega) | exact m_int (by simp; done) | (exact m_int (by simp; omega))), trivial⟩, ⟨⟨rfl, (by first | exact trivial | exact ssh_vec | exact ssh_alg | exact ssh_tab | exact ssh_mat | exact ⟨rfl, fun _ => trivial⟩ | exact ⟨rfl, fun _ => by rw [zr29]; exact ssh_vec⟩), (by exact mt_tab (fun _ _ _ _ _ _ => rfl))⟩, ⟨rfl, (by first | exact trivial | exact ssh_vec | exact ssh_alg | exact ssh_tab | exact ssh_mat | exact ⟨rfl, fun _ => trivial⟩ | exact ⟨rfl, fun _ => by rw [zr29]; exact ssh_vec⟩), (by exact mt_tab (fun _ _ _ _ _ _ => rfl))⟩, trivial⟩, ⟨⟨(fun h => by first | exact ⟨rfl, rfl⟩ | exact absurd h (by decide)), (fun h => by first | exact ⟨rfl, rfl⟩ | exact absurd h (by decide)), trivial⟩, ⟨(fun h => by first | exact ⟨rfl, rfl⟩ | exact absurd h (by decide)), (fun h => by first | exact ⟨rfl, rfl⟩ | exact absurd h (by decide)), trivial⟩, trivial⟩⟩
  · exact Nat.zero_le _
  intro i hi0
  refine sq (env2 := [(1, .cptr (tabA T)), (2, .ptr 2 0 [] 0 (tabA (fun _ _ _ => 0))), (3, .ptr 3 0 [] 0 (tabA (fun _ _ _ => 0))), (4, .int .i64 (i : Int))]) (ol2 := [(2, .one (tabA (fun _ _ _ => 0)) (tabA (fun _ _ _ => 0))), (3, .one (tabA (fun _ _ _ => 0)) (tabA (cutG (fun _ _ => 0) T i)))]) rfl rfl ?_
  refine snd_seq ?_
  apply sr tokTB (by kernel_rfl)
  · intro RR hRR
    refine w_move (by constructor) ?_
    refine w_lss rfl rfl ?_
    exact hRR
  refine snd_cond _ rfl (fun hc6 => ?_) (fun hc6 => ?_)
  · try simp only [hcs] at hc6
    refine snd_skip ?_
    refine snd_seq ?_
    refine snd_block ?_
    apply lr tokTB (by kernel_rfl)
    · intro RR hRR
      refine w_move (by constructor) ?_
      refine w_move (by constructor) ?_
      refine w_iac rfl rfl und24 kn23 (by exact sz23.symm) ?_ rfl ?_
      · exact ⟨by omega, by omega⟩
      refine w_ldc rfl kn23 (by constructor) (by exact sz23.symm) (by exact ag23.symm) ?_
      refine y_call rfl (ec exn) (c_toByteA6A6) ?_
      refine w_iap rfl rfl und24 kn23 rfl (by exact sz23.symm) rfl ?_ ?_
      · exact ⟨by omega, by omega⟩
      first | refine w_stw rfl (by constructor) kn23 rfl (by exact trivial) (by first | exact trivial | exact ssh_vec | exact ssh_alg | exact ssh_tab | exact ssh_mat | exact ⟨rfl, fun _ => trivial⟩ | exact ⟨rfl, fun _ => by rw [zr29]; exact ssh_vec⟩) (by exact sz23.symm) ?_ | refine w_sti rfl rfl kn23 rfl (by exact trivial) (by exact sz23.symm) ?_ | refine w_store rfl (HV.eq (by constructor)) kn23 rfl (by exact trivial) (by first | exact trivial | exact ssh_vec | exact ssh_alg | exact ssh_tab | exact ssh_mat | exact ⟨rfl, fun _ => trivial⟩ | exact ⟨rfl, fun _ => by rw [zr29]; exact ssh_vec⟩) (by exact sz23.symm) (put_in (by first | exact put_mat | exact put_tab | exact put_alg0 | exact put_alg1 | exact put_alg2 | exact put_alg3 | exact put_alg3i | exact put_alg2ij | exact put_alg2ijk | exact put_mat2 | exact put_tab2 | exact put_tab3)) ?_ | refine w_store rfl (HV.eq (by constructor)) kn23 rfl (by exact trivial) (by exact trivial) (by exact sz23.symm) rfl ?_
      exact hRR
    apply lr tokTB (by kernel_rfl)
    · intro RR hRR
      refine w_move (by constructor) ?_
      refine y_add rfl rfl ?_
      refine w_assign (by constructor) ?_
      exact hRR
    refine ⟨i + 1, ρ0, ?_, (by omega), (by dsimp only; omega)⟩
    exact ⟨⟨(by exact mt_tab (V := _) (fun _ _ _ _ _ _ => rfl)), ⟨rfl, rfl, rfl, rfl, rfl⟩, ⟨rfl, rfl, rfl, rfl, rfl⟩, (by first | exact m_int rfl | exact m_int (by omega) | exact m_int (by simp; done) | (exact m_int (by simp; omega))), trivial⟩, ⟨⟨rfl, (by first | exact trivial | exact ssh_vec | exact ssh_alg | exact ssh_tab | exact ssh_mat | exact ⟨rfl, fun _ => trivial⟩ | exact ⟨rfl, fun _ => by rw [zr29]; exact ssh_vec⟩), (by exact mt_tab (fun _ _ _ _ _ _ => rfl))⟩, ⟨rfl, (by first | exact trivial | exact ssh_vec | exact ssh_alg | exact ssh_tab | exact ssh_mat | exact ⟨rfl, fun _ => trivial⟩ | exact ⟨rfl, fun _ => by rw [zr29]; exact ssh_vec⟩), (by exact mt_tab (fun z w y _ _ _ => congrFun (congrFun (upd_cutG _ _ i z) w) y))⟩, trivial⟩, ⟨⟨(fun h => by first | exact ⟨rfl, rfl⟩ | exact absurd h (by decide)), (fun h => by first | exact ⟨rfl, rfl⟩ | exact absurd h (by decide)), trivial⟩, ⟨(fun h => by first | exact ⟨rfl, rfl⟩ | exact absurd h (by decide)), (fun h => by first | exact ⟨rfl, rfl⟩ | exact absurd h (by decide)), trivial⟩, trivial⟩⟩
  · try simp only [hcs] at hc6
    have hi6 : i = 6 := by omega
    subst hi6
    refine snd_exit ?_
    apply sr tokTB (by kernel_rfl)
    · intro RR hRR
      refine w_ldp rfl kn24 rfl (by constructor) (by exact sz24.symm) (by exact ag24.symm) ?_
      refine w_stw rfl (by constructor) kn24 rfl (by exact trivial) (by first | exact trivial | exact ssh_vec | exact ssh_alg | exact ssh_tab | exact ssh_mat | exact ⟨rfl, fun _ => trivial⟩ | exact ⟨rfl, fun _ => by rw [zr29]; exact ssh_vec⟩) (by exact sz24.symm) ?_
      exact hRR
    refine snd_ret ?_
    exact rt_c (T := TB) rfl kn24 rfl sz24.symm ag24.symm (fun V => mt_tab (fun j k l hj _ _ => by simp [cutG, hj]))
theorem c_toAlgebra {p n : Int} {T : Nat → Nat → Nat → Int} {fo : Nat → Int} : ACalls Try.prog TB 16 [algA p n T fo] (algA p n T fo) [] := by
  refine acalls_of tokTB Try.func16 rfl rfl (Nat.le_of_ble_eq_true rfl) ?_
  apply sr tokTB (by kernel_rfl)
  · intro RR hRR
    refine w_boxc (HV.eq (by constructor)) (by exact trivial) ?_
    refine w_alloc kn31 rfl zr31 ?_
    exact hRR
  apply sr tokTB (by kernel_rfl)
  · intro RR hRR
    refine w_alloc kn31 rfl zr31 ?_
    exact hRR
  apply sr tokTB (by kernel_rfl)
  · intro RR hRR
    refine w_fac rfl und26 rfl kn2 nz2 (by decide) rfl (by constructor) ?_
    refine w_ldc rfl kn2 (by constructor) (by exact sz2.symm) (by exact ag2.symm) ?_
    refine w_fap rfl und31 rfl kn2 nz2 rfl (by decide) rfl ?_
    first | refine w_stw rfl (by constructor) kn2 rfl (by exact trivial) (by first | exact trivial | exact ssh_vec | exact ssh_alg | exact ssh_tab | exact ssh_mat | exact ⟨rfl, fun _ => trivial⟩ | exact ⟨rfl, fun _ => by rw [zr29]; exact ssh_vec⟩) (by exact sz2.symm) ?_ | refine w_sti rfl rfl kn2 rfl (by exact trivial) (by exact sz2.symm) ?_ | refine w_store rfl (HV.eq (by constructor)) kn2 rfl (by exact trivial) (by first | exact trivial | exact ssh_vec | exact ssh_alg | exact ssh_tab | exact ssh_mat | exact ⟨rfl, fun _ => trivial⟩ | exact ⟨rfl, fun _ => by rw [zr29]; exact ssh_vec⟩) (by exact sz2.symm) (put_in (by first | exact put_mat | exact put_tab | exact put_alg0 | exact put_alg1 | exact put_alg2 | exact put_alg3 | exact put_alg3i | exact put_alg2ij | exact put_alg2ijk | exact put_mat2 | exact put_tab2 | exact put_tab3)) ?_ | refine w_store rfl (HV.eq (by constructor)) kn2 rfl (by exact trivial) (by exact trivial) (by exact sz2.symm) rfl ?_
    exact hRR
  apply sr tokTB (by kernel_rfl)
  · intro RR hRR
    refine w_fac rfl und26 rfl kn2 nz2 (by decide) rfl (by constructor) ?_
    refine w_ldc rfl kn2 (by constructor) (by exact sz2.symm) (by exact ag2.symm) ?_
    refine w_fap rfl und31 rfl kn2 nz2 rfl (by decide) rfl ?_
    first | refine w_stw rfl (by constructor) kn2 rfl (by exact trivial) (by first | exact trivial | exact ssh_vec | exact ssh_alg | exact ssh_tab | exact ssh_mat | exact ⟨rfl, fun _ => trivial⟩ | exact ⟨rfl, fun _ => by rw [zr29]; exact ssh_vec⟩) (by exact sz2.symm) ?_ | refine w_sti rfl rfl kn2 rfl (by exact trivial) (by exact sz2.symm) ?_ | refine w_store rfl (HV.eq (by constructor)) kn2 rfl (by exact trivial) (by first | exact trivial | exact ssh_vec | exact ssh_alg | exact ssh_tab | exact ssh_mat | exact ⟨rfl, fun _ => trivial⟩ | exact ⟨rfl, fun _ => by rw [zr29]; exact ssh_vec⟩) (by exact sz2.symm) (put_in (by first | exact put_mat | exact put_tab | exact put_alg0 | exact put_alg1 | exact put_alg2 | exact put_alg3 | exact put_alg3i | exact put_alg2ij | exact put_alg2ijk | exact put_mat2 | exact put_tab2 | exact put_tab3)) ?_ | refine w_store rfl (HV.eq (by constructor)) kn2 rfl (by exact trivial) (by exact trivial) (by exact sz2.symm) rfl ?_
    exact hRR
  apply sr tokTB (by kernel_rfl)
  · intro RR hRR
    refine w_fac rfl und26 rfl kn24 nz24 (by decide) rfl (by constructor) ?_
    refine w_ldc rfl kn24 (by constructor) (by exact sz24.symm) (by exact ag24.symm) ?_
    refine y_call rfl (ec exn) (c_toByteA6A6A6) ?_
    refine w_fap rfl und31 rfl kn24 nz24 rfl (by decide) rfl ?_
    first | refine w_stw rfl (by constructor) kn24 rfl (by exact trivial) (by first | exact trivial | exact ssh_vec | exact ssh_alg | exact ssh_tab | exact ssh_mat | exact ⟨rfl, fun _ => trivial⟩ | exact ⟨rfl, fun _ => by rw [zr29]; exact ssh_vec⟩) (by exact sz24.symm) ?_ | refine w_sti rfl rfl kn24 rfl (by exact trivial) (by exact sz24.symm) ?_ | refine w_store rfl (HV.eq (by constructor)) kn24 rfl (by exact trivial) (by first | exact trivial | exact ssh_vec | exact ssh_alg | exact ssh_tab | exact ssh_mat | exact ⟨rfl, fun _ => trivial⟩ | exact ⟨rfl, fun _ => by rw [zr29]; exact ssh_vec⟩) (by exact sz24.symm) (put_in (by first | exact put_mat | exact put_tab | exact put_alg0 | exact put_alg1 | exact put_alg2 | exact put_alg3 | exact put_alg3i | exact put_alg2ij | exact put_alg2ijk | exact put_mat2 | exact put_tab2 | exact put_tab3)) ?_ | refine w_store rfl (HV.eq (by constructor)) kn24 rfl (by exact trivial) (by exact trivial) (by exact sz24.symm) rfl ?_
    exact hRR
  apply sr tokTB (by kernel_rfl)
  · intro RR hRR
    refine w_fac rfl und26 rfl kn22 nz22 (by decide) rfl (by constructor) ?_
    refine w_ldc rfl kn22 (by constructor) (by exact sz22.symm) (by exact ag22.symm) ?_
    refine y_call rfl (ec exn) (c_toVector) ?_
    refine w_fap rfl und31 rfl kn29 nz29 rfl (by decide) rfl ?_
    first | refine w_stw rfl (by constructor) kn29 rfl (by exact trivial) (by first | exact trivial | exact ssh_vec | exact ssh_alg | exact ssh_tab | exact ssh_mat | exact ⟨rfl, fun _ => trivial⟩ | exact ⟨rfl, fun _ => by rw [zr29]; exact ssh_vec⟩) (by exact sz29.symm) ?_ | refine w_sti rfl rfl kn29 rfl (by exact trivial) (by exact sz29.symm) ?_ | refine w_store rfl (HV.eq (by constructor)) kn29 rfl (by exact trivial) (by first | exact trivial | exact ssh_vec | exact ssh_alg | exact ssh_tab | exact ssh_mat | exact ⟨rfl, fun _ => trivial⟩ | exact ⟨rfl, fun _ => by rw [zr29]; exact ssh_vec⟩) (by exact sz29.symm) (put_in (by first | exact put_mat | exact put_tab | exact put_alg0 | exact put_alg1 | exact put_alg2 | exact put_alg3 | exact put_alg3i | exact put_alg2ij | exact put_alg2ijk | exact put_mat2 | exact put_tab2 | exact put_tab3)) ?_ | refine w_store rfl (HV.eq (by constructor)) kn29 rfl (by exact trivial) (by exact trivial) (by exact sz29.symm) rfl ?_
    exact hRR
  apply sr tokTB (by kernel_rfl)
  · intro RR hRR
    refine w_ldp rfl kn31 rfl (by constructor) (by exact sz31.symm) (by exact ag31.symm) ?_
    refine w_stw rfl (by constructor) kn31 rfl (by exact trivial) (by first | exact trivial | exact ssh_vec | exact ssh_alg | exact ssh_tab | exact ssh_mat | exact ⟨rfl, fun _ => trivial⟩ | exact ⟨rfl, fun _ => by rw [zr29]; exact ssh_vec⟩) (by exact sz31.symm) ?_
    exact hRR
  refine snd_ret ?_
  exact rt_c (T := TB) rfl kn31 rfl sz31.symm ag31.symm (fun V => m_alg)
end Go.Am
set_option linter.unusedVariables false
set_option linter.unusedSimpArgs false
set_option maxRecDepth 4000
namespace Go.Am
attribute [local irreducible] retQ
open Go.Proofs
theorem c_Index {m : Nat} {f : Nat → Int} {x : Int} (hm : m ≤ 1000000) : ACalls Try.prog TB 150 [.ro m (fun i => .int .i64 (f i)), .int .i64 x] (.int .i64 (idxF (fun i => decide (x = f i)) m)) [] := by
  refine acalls_of tokTB Try.func150 rfl rfl (Nat.le_of_ble_eq_true rfl) ?_
  apply sr tokTB (by kernel_rfl)
  · intro RR hRR
    refine w_assign (by constructor) ?_
    exact hRR
  refine snd_seq ?_
  apply sr tokTB (by kernel_rfl)
  · intro RR hRR
    refine w_move (by constructor) ?_
    refine w_len_r rfl rfl und47 ?_
    refine w_move (by constructor) ?_
    exact hRR
  refine snd_block ?_
  refine snd_loop (S := Nat) (fun i => ([(0, .ro m (fun i => .int .i64 (f i))), (1, .int .i64 x), (7, .int .i64 (m : Int)), (8, .int .i64 (i : Int))], [])) (fun i => i ≤ m ∧ ∀ j, j < i → decide (x = f j) = false) (fun i => m - i) (0) ρ0 ?_ ?_ ?_
  · exact ⟨⟨(by exact ⟨rfl, fun _ _ => rfl⟩), (by first | exact m_int rfl | exact m_int (by omega) | exact m_int (by simp; done) | (exact m_int (by simp; omega))), (by first | exact m_int rfl | exact m_int (by omega) | exact m_int (by simp; done) | (exact m_int (by simp; omega))), (by first | exact m_int rfl | exact m_int (by omega) | exact m_int (by simp; done) | (exact m_int (by simp; omega))), trivial⟩, trivial, trivial⟩
  · exact ⟨Nat.zero_le _, fun j hj => by omega⟩
  intro i hi0
  refine sq (env2 := [(0, .ro m (fun i => .int .i64 (f i))), (1, .int .i64 x), (7, .int .i64 (m : Int)), (8, .int .i64 (i : Int))]) (ol2 := []) rfl rfl ?_
  obtain ⟨hi1, hi2⟩ := hi0
  apply sr tokTB (by kernel_rfl)
  · intro RR hRR
    refine w_lss rfl rfl ?_
    exact hRR
  refine snd_seq ?_
  refine snd_cond _ rfl (fun hc9 => ?_) (fun hc9 => ?_)
  · try simp only [hcs] at hc9
    refine snd_skip ?_
    refine snd_seq ?_
    refine snd_block ?_
    apply sr tokTB (by kernel_rfl)
    · intro RR hRR
      refine w_move (by constructor) ?_
      refine w_assign (by constructor) ?_
      exact hRR
    apply sr tokTB (by kernel_rfl)
    · intro RR hRR
      refine w_move (by constructor) ?_
      refine w_move (by constructor) ?_
      refine w_move (by constructor) ?_
      refine w_iar rfl rfl und47 kn2 (by exact sz2.symm) ?_ rfl ?_
      · exact ⟨by omega, by omega⟩
      first | refine w_ldc rfl kn2 (by constructor) (by exact sz2.symm) (by exact ag2.symm) ?_ | refine w_ldp rfl kn2 rfl (by constructor) (by exact sz2.symm) (by exact ag2.symm) ?_
      refine w_eql rfl rfl ?_
      exact hRR
    refine snd_cond _ rfl (fun hc16 => ?_) (fun hc16 => ?_)
    · skip
      apply sr tokTB (by kernel_rfl)
      · intro RR hRR
        refine w_move (by constructor) ?_
        refine w_assign (by constructor) ?_
        exact hRR
      refine snd_ret ?_
      exact rt (T := TB) (fun V => m_int (idx_at (by omega) (by exact hc16) hi2).symm)
    · skip
      refine snd_skip ?_
      apply lr tokTB (by kernel_rfl)
      · intro RR hRR
        refine y_add rfl rfl ?_
        refine w_move (by constructor) ?_
        exact hRR
      refine ⟨i + 1, ρ0, ?_, ⟨by omega, all_step hi2 (by exact hc16)⟩, (by dsimp only; omega)⟩
      exact ⟨⟨(by exact ⟨rfl, fun _ _ => rfl⟩), (by first | exact m_int rfl | exact m_int (by omega) | exact m_int (by simp; done) | (exact m_int (by simp; omega))), (by first | exact m_int rfl | exact m_int (by omega) | exact m_int (by simp; done) | (exact m_int (by simp; omega))), (by first | exact m_int rfl | exact m_int (by omega) | exact m_int (by simp; done) | (exact m_int (by simp; omega))), trivial⟩, trivial, trivial⟩
  · try simp only [hcs] at hc9
    refine snd_exit ?_
    apply sr tokTB (by kernel_rfl)
    · intro RR hRR
      refine w_assign (by constructor) ?_
      exact hRR
    refine snd_ret ?_
    exact rt (T := TB) (fun V => m_int (idx_none (fun j hj => hi2 j (by omega))).symm)
theorem c_Contains {m : Nat} {f : Nat → Int} {x : Int} (hm : m ≤ 1000000) : ACalls Try.prog TB 147 [.ro m (fun i => .int .i64 (f i)), .int .i64 x] (.bool (decide (0 ≤ idxF (fun i => decide (x = f i)) m))) [] := by
  refine acalls_of tokTB Try.func147 rfl rfl (Nat.le_of_ble_eq_true rfl) ?_
  apply sr tokTB (by kernel_rfl)
  · intro RR hRR
    refine w_assign (by constructor) ?_
    exact hRR
  apply sr tokTB (by kernel_rfl)
  · intro RR hRR
    refine w_move (by constructor) ?_
    refine w_move (by constructor) ?_
    refine y_call rfl (ec (ec exn)) (c_Index (by omega)) ?_
    refine w_geq rfl rfl ?_
    refine w_assign (by constructor) ?_
    exact hRR
  refine snd_ret ?_
  exact rt (T := TB) (fun V => by first | exact m_bool rfl | exact m_int rfl)
theorem c_isPrime {p : Int} : ACalls Try.prog TB 122 [.int .i64 p] (.bool (primeB p)) [] := by
  refine acalls_of tokTB Try.func122 rfl rfl (Nat.le_of_ble_eq_true rfl) ?_
  apply sr tokTB (by kernel_rfl)
  · intro RR hRR
    refine w_assign (by constructor) ?_
    exact hRR
  apply sr tokTB (by kernel_rfl)
  · intro RR hRR
    refine w_bsl und47 kn2 (by rw [sz2]; rfl) rfl (by exact ⟨⟨by decide, trivial, sz2.symm⟩, ⟨by decide, trivial, sz2.symm⟩, ⟨by decide, trivial, sz2.symm⟩, ⟨by decide, trivial, sz2.symm⟩, ⟨by decide, trivial, sz2.symm⟩, ⟨by decide, trivial, sz2.symm⟩, trivial⟩) (by exact ⟨(by first | exact trivial | exact ssh_vec | exact ssh_alg | exact ssh_tab | exact ssh_mat | exact ⟨rfl, fun _ => trivial⟩ | exact ⟨rfl, fun _ => by rw [zr29]; exact ssh_vec⟩), (by first | exact trivial | exact ssh_vec | exact ssh_alg | exact ssh_tab | exact ssh_mat | exact ⟨rfl, fun _ => trivial⟩ | exact ⟨rfl, fun _ => by rw [zr29]; exact ssh_vec⟩), (by first | exact trivial | exact ssh_vec | exact ssh_alg | exact ssh_tab | exact ssh_mat | exact ⟨rfl, fun _ => trivial⟩ | exact ⟨rfl, fun _ => by rw [zr29]; exact ssh_vec⟩), (by first | exact trivial | exact ssh_vec | exact ssh_alg | exact ssh_tab | exact ssh_mat | exact ⟨rfl, fun _ => trivial⟩ | exact ⟨rfl, fun _ => by rw [zr29]; exact ssh_vec⟩), (by first | exact trivial | exact ssh_vec | exact ssh_alg | exact ssh_tab | exact ssh_mat | exact ⟨rfl, fun _ => trivial⟩ | exact ⟨rfl, fun _ => by rw [zr29]; exact ssh_vec⟩), (by first | exact trivial | exact ssh_vec | exact ssh_alg | exact ssh_tab | exact ssh_mat | exact ⟨rfl, fun _ => trivial⟩ | exact ⟨rfl, fun _ => by rw [zr29]; exact ssh_vec⟩), trivial⟩) rfl ?_
    refine w_move (by constructor) ?_
    refine y_call rfl (exc (by refine congrArg (AV.ro 6) (funext fun i => ?_); match i with | 0 => rfl | 1 => rfl | 2 => rfl | 3 => rfl | 4 => rfl | 5 => rfl | n + 6 => rfl) (exc (by exact rfl) exn)) (c_Contains (f := primesF) (by omega)) ?_
    refine w_assign (by constructor) ?_
    exact hRR
  refine snd_ret ?_
  exact rt (T := TB) (fun V => m_bool (prime_idx p))
theorem c_l01Prime {p : Int} : ACalls Try.prog TB 145 [.int .i64 p] (.bool (primeB p)) [] := by
  refine acalls_of tokTB Try.func145 rfl rfl (Nat.le_of_ble_eq_true rfl) ?_
  apply sr tokTB (by kernel_rfl)
  · intro RR hRR
    refine w_assign (by constructor) ?_
    exact hRR
  apply srG (env' := (2, .bool (decide (p = 2) || decide (p = 3) || decide (p = 5) || decide (p = 7) || decide (p = 11) || decide (p = 13))) :: (24, .bool (decide (p = 2) || decide (p = 3) || decide (p = 5) || decide (p = 7) || decide (p = 11) || decide (p = 13))) :: (23, .any) :: (22, .any) :: (21, .bool (decide (p = 2) || decide (p = 3) || decide (p = 5) || decide (p = 7) || decide (p = 11))) :: (20, .bool (decide (p = 2) || decide (p = 3) || decide (p = 5) || decide (p = 7) || decide (p = 11))) :: (19, .any) :: (18, .any) :: (17, .bool (decide (p = 2) || decide (p = 3) || decide (p = 5) || decide (p = 7))) :: (16, .bool (decide (p = 2) || decide (p = 3) || decide (p = 5) || decide (p = 7))) :: (15, .any) :: (14, .any) :: (13, .bool (decide (p = 2) || decide (p = 3) || decide (p = 5))) :: (12, .bool (decide (p = 2) || decide (p = 3) || decide (p = 5))) :: (11, .any) :: (10, .any) :: (9, .bool (decide (p = 2) || decide (p = 3))) :: (8, .bool (decide (p = 2) || decide (p = 3))) :: (7, .any) :: (6, .any) :: (5, _) :: (4, _) :: (3, _) :: _) tokTB (by kernel_rfl)
  · intro RR hRR
    refine w_move (by constructor) ?_
    refine w_eql rfl rfl ?_
    refine w_move (by constructor) ?_
    refine w_g rfl rfl (fun hg2 => ?_) (fun hg2 => ?_)
    · skip
      refine w_move (by constructor) ?_
      refine w_g_on rfl rfl hg2 ?_
      refine w_eql rfl rfl ?_
      refine w_pick_0 rfl hg2 (by constructor) ?_
      refine w_move (by constructor) ?_
      refine w_g rfl rfl (fun hg6 => ?_) (fun hg6 => ?_)
      · skip
        refine w_move (by constructor) ?_
        refine w_g_on rfl rfl hg6 ?_
        refine w_eql rfl rfl ?_
        refine w_pick_0 rfl hg6 (by constructor) ?_
        refine w_move (by constructor) ?_
        refine w_g rfl rfl (fun hg10 => ?_) (fun hg10 => ?_)
        · skip
          refine w_move (by constructor) ?_
          refine w_g_on rfl rfl hg10 ?_
          refine w_eql rfl rfl ?_
          refine w_pick_0 rfl hg10 (by constructor) ?_
          refine w_move (by constructor) ?_
          refine w_g rfl rfl (fun hg14 => ?_) (fun hg14 => ?_)
          · skip
            refine w_move (by constructor) ?_
            refine w_g_on rfl rfl hg14 ?_
            refine w_eql rfl rfl ?_
            refine w_pick_0 rfl hg14 (by constructor) ?_
            refine w_move (by constructor) ?_
            refine w_g rfl rfl (fun hg18 => ?_) (fun hg18 => ?_)
            · skip
              refine w_move (by constructor) ?_
              refine w_g_on rfl rfl hg18 ?_
              refine w_eql rfl rfl ?_
              refine w_pick_0 rfl hg18 (by constructor) ?_
              refine w_assign (by constructor) ?_
              try simp only [Int.toNat_natCast] at hg2 hg6 hg10 hg14 hg18
              exact hRR _ (EL.cons (.inr (by first | rfl | (simp only [hg2, hg6, hg10, hg14, hg18, els]; done) | (simp only [hg2, hg6, hg10, hg14, hg18, els]; rfl) | simp [hg2, hg6, hg10, hg14, hg18])) (EL.cons (.inr (by first | rfl | (simp only [hg2, hg6, hg10, hg14, hg18, els]; done) | (simp only [hg2, hg6, hg10, hg14, hg18, els]; rfl) | simp [hg2, hg6, hg10, hg14, hg18])) (EL.cons (.inl rfl) (EL.cons (.inl rfl) (EL.cons (.inr (by first | rfl | (simp only [hg2, hg6, hg10, hg14, hg18, els]; done) | (simp only [hg2, hg6, hg10, hg14, hg18, els]; rfl) | simp [hg2, hg6, hg10, hg14, hg18])) (EL.cons (.inr (by first | rfl | (simp only [hg2, hg6, hg10, hg14, hg18, els]; done) | (simp only [hg2, hg6, hg10, hg14, hg18, els]; rfl) | simp [hg2, hg6, hg10, hg14, hg18])) (EL.cons (.inl rfl) (EL.cons (.inl rfl) (EL.cons (.inr (by first | rfl | (simp only [hg2, hg6, hg10, hg14, hg18, els]; done) | (simp only [hg2, hg6, hg10, hg14, hg18, els]; rfl) | simp [hg2, hg6, hg10, hg14, hg18])) (EL.cons (.inr (by first | rfl | (simp only [hg2, hg6, hg10, hg14, hg18, els]; done) | (simp only [hg2, hg6, hg10, hg14, hg18, els]; rfl) | simp [hg2, hg6, hg10, hg14, hg18])) (EL.cons (.inl rfl) (EL.cons (.inl rfl) (EL.cons (.inr (by first | rfl | (simp only [hg2, hg6, hg10, hg14, hg18, els]; done) | (simp only [hg2, hg6, hg10, hg14, hg18, els]; rfl) | simp [hg2, hg6, hg10, hg14, hg18])) (EL.cons (.inr (by first | rfl | (simp only [hg2, hg6, hg10, hg14, hg18, els]; done) | (simp only [hg2, hg6, hg10, hg14, hg18, els]; rfl) | simp [hg2, hg6, hg10, hg14, hg18])) (EL.cons (.inl rfl) (EL.cons (.inl rfl) (EL.cons (.inr (by first | rfl | (simp only [hg2, hg6, hg10, hg14, hg18, els]; done) | (simp only [hg2, hg6, hg10, hg14, hg18, els]; rfl) | simp [hg2, hg6, hg10, hg14, hg18])) (EL.cons (.inr (by first | rfl | (simp only [hg2, hg6, hg10, hg14, hg18, els]; done) | (simp only [hg2, hg6, hg10, hg14, hg18, els]; rfl) | simp [hg2, hg6, hg10, hg14, hg18])) (EL.cons (.inl rfl) (EL.cons (.inl rfl) (EL.cons (.inr rfl) (EL.cons (.inr rfl) (EL.cons (.inr rfl) (EL.refl _))))))))))))))))))))))))
            · have hg18 := eq_true_of_ne_false hg18
              refine w_g_off rfl rfl (by rw [hg18]; decide) ?_
              refine w_pick_1 rfl hg18 (by constructor) ?_
              refine w_assign (by constructor) ?_
              try simp only [Int.toNat_natCast] at hg2 hg6 hg10 hg14 hg18
              exact hRR _ (EL.cons (.inr (by first | rfl | (simp only [hg2, hg6, hg10, hg14, hg18, els]; done) | (simp only [hg2, hg6, hg10, hg14, hg18, els]; rfl) | simp [hg2, hg6, hg10, hg14, hg18])) (EL.cons (.inr (by first | rfl | (simp only [hg2, hg6, hg10, hg14, hg18, els]; done) | (simp only [hg2, hg6, hg10, hg14, hg18, els]; rfl) | simp [hg2, hg6, hg10, hg14, hg18])) (EL.cons (.inl rfl) (EL.cons (.inl rfl) (EL.cons (.inr (by first | rfl | (simp only [hg2, hg6, hg10, hg14, hg18, els]; done) | (simp only [hg2, hg6, hg10, hg14, hg18, els]; rfl) | simp [hg2, hg6, hg10, hg14, hg18])) (EL.cons (.inr (by first | rfl | (simp only [hg2, hg6, hg10, hg14, hg18, els]; done) | (simp only [hg2, hg6, hg10, hg14, hg18, els]; rfl) | simp [hg2, hg6, hg10, hg14, hg18])) (EL.cons (.inl rfl) (EL.cons (.inl rfl) (EL.cons (.inr (by first | rfl | (simp only [hg2, hg6, hg10, hg14, hg18, els]; done) | (simp only [hg2, hg6, hg10, hg14, hg18, els]; rfl) | simp [hg2, hg6, hg10, hg14, hg18])) (EL.cons (.inr (by first | rfl | (simp only [hg2, hg6, hg10, hg14, hg18, els]; done) | (simp only [hg2, hg6, hg10, hg14, hg18, els]; rfl) | simp [hg2, hg6, hg10, hg14, hg18])) (EL.cons (.inl rfl) (EL.cons (.inl rfl) (EL.cons (.inr (by first | rfl | (simp only [hg2, hg6, hg10, hg14, hg18, els]; done) | (simp only [hg2, hg6, hg10, hg14, hg18, els]; rfl) | simp [hg2, hg6, hg10, hg14, hg18])) (EL.cons (.inr (by first | rfl | (simp only [hg2, hg6, hg10, hg14, hg18, els]; done) | (simp only [hg2, hg6, hg10, hg14, hg18, els]; rfl) | simp [hg2, hg6, hg10, hg14, hg18])) (EL.cons (.inl rfl) (EL.cons (.inl rfl) (EL.cons (.inr (by first | rfl | (simp only [hg2, hg6, hg10, hg14, hg18, els]; done) | (simp only [hg2, hg6, hg10, hg14, hg18, els]; rfl) | simp [hg2, hg6, hg10, hg14, hg18])) (EL.cons (.inr (by first | rfl | (simp only [hg2, hg6, hg10, hg14, hg18, els]; done) | (simp only [hg2, hg6, hg10, hg14, hg18, els]; rfl) | simp [hg2, hg6, hg10, hg14, hg18])) (EL.cons (.inl rfl) (EL.cons (.inl rfl) (EL.cons (.inr rfl) (EL.cons (.inr rfl) (EL.cons (.inr rfl) (EL.refl _))))))))))))))))))))))))
          · have hg14 := eq_true_of_ne_false hg14
            refine w_g_off rfl rfl (by rw [hg14]; decide) ?_
            refine w_pick_1 rfl hg14 (by constructor) ?_
            refine w_move (by constructor) ?_
            refine w_g_off rfl rfl (by decide) ?_
            refine w_g_off rfl rfl (by decide) ?_
            refine w_pick_1 rfl rfl (by constructor) ?_
            refine w_assign (by constructor) ?_
            try simp only [Int.toNat_natCast] at hg2 hg6 hg10 hg14
            exact hRR _ (EL.cons (.inr (by first | rfl | (simp only [hg2, hg6, hg10, hg14, els]; done) | (simp only [hg2, hg6, hg10, hg14, els]; rfl) | simp [hg2, hg6, hg10, hg14])) (EL.cons (.inr (by first | rfl | (simp only [hg2, hg6, hg10, hg14, els]; done) | (simp only [hg2, hg6, hg10, hg14, els]; rfl) | simp [hg2, hg6, hg10, hg14])) (EL.cons (.inl rfl) (EL.cons (.inl rfl) (EL.cons (.inr (by first | rfl | (simp only [hg2, hg6, hg10, hg14, els]; done) | (simp only [hg2, hg6, hg10, hg14, els]; rfl) | simp [hg2, hg6, hg10, hg14])) (EL.cons (.inr (by first | rfl | (simp only [hg2, hg6, hg10, hg14, els]; done) | (simp only [hg2, hg6, hg10, hg14, els]; rfl) | simp [hg2, hg6, hg10, hg14])) (EL.cons (.inl rfl) (EL.cons (.inl rfl) (EL.cons (.inr (by first | rfl | (simp only [hg2, hg6, hg10, hg14, els]; done) | (simp only [hg2, hg6, hg10, hg14, els]; rfl) | simp [hg2, hg6, hg10, hg14])) (EL.cons (.inr (by first | rfl | (simp only [hg2, hg6, hg10, hg14, els]; done) | (simp only [hg2, hg6, hg10, hg14, els]; rfl) | simp [hg2, hg6, hg10, hg14])) (EL.cons (.inl rfl) (EL.cons (.inl rfl) (EL.cons (.inr (by first | rfl | (simp only [hg2, hg6, hg10, hg14, els]; done) | (simp only [hg2, hg6, hg10, hg14, els]; rfl) | simp [hg2, hg6, hg10, hg14])) (EL.cons (.inr (by first | rfl | (simp only [hg2, hg6, hg10, hg14, els]; done) | (simp only [hg2, hg6, hg10, hg14, els]; rfl) | simp [hg2, hg6, hg10, hg14])) (EL.cons (.inl rfl) (EL.cons (.inl rfl) (EL.cons (.inr (by first | rfl | (simp only [hg2, hg6, hg10, hg14, els]; done) | (simp only [hg2, hg6, hg10, hg14, els]; rfl) | simp [hg2, hg6, hg10, hg14])) (EL.cons (.inr (by first | rfl | (simp only [hg2, hg6, hg10, hg14, els]; done) | (simp only [hg2, hg6, hg10, hg14, els]; rfl) | simp [hg2, hg6, hg10, hg14])) (EL.cons (.inl rfl) (EL.cons (.inl rfl) (EL.cons (.inr rfl) (EL.cons (.inr rfl) (EL.cons (.inr rfl) (EL.refl _))))))))))))))))))))))))
        · have hg10 := eq_true_of_ne_false hg10
          refine w_g_off rfl rfl (by rw [hg10]; decide) ?_
          refine w_pick_1 rfl hg10 (by constructor) ?_
          refine w_move (by constructor) ?_
          refine w_g_off rfl rfl (by decide) ?_
          refine w_g_off rfl rfl (by decide) ?_
          refine w_pick_1 rfl rfl (by constructor) ?_
          refine w_move (by constructor) ?_
          refine w_g_off rfl rfl (by decide) ?_
          refine w_g_off rfl rfl (by decide) ?_
          refine w_pick_1 rfl rfl (by constructor) ?_
          refine w_assign (by constructor) ?_
          try simp only [Int.toNat_natCast] at hg2 hg6 hg10
          exact hRR _ (EL.cons (.inr (by first | rfl | (simp only [hg2, hg6, hg10, els]; done) | (simp only [hg2, hg6, hg10, els]; rfl) | simp [hg2, hg6, hg10])) (EL.cons (.inr (by first | rfl | (simp only [hg2, hg6, hg10, els]; done) | (simp only [hg2, hg6, hg10, els]; rfl) | simp [hg2, hg6, hg10])) (EL.cons (.inl rfl) (EL.cons (.inl rfl) (EL.cons (.inr (by first | rfl | (simp only [hg2, hg6, hg10, els]; done) | (simp only [hg2, hg6, hg10, els]; rfl) | simp [hg2, hg6, hg10])) (EL.cons (.inr (by first | rfl | (simp only [hg2, hg6, hg10, els]; done) | (simp only [hg2, hg6, hg10, els]; rfl) | simp [hg2, hg6, hg10])) (EL.cons (.inl rfl) (EL.cons (.inl rfl) (EL.cons (.inr (by first | rfl | (simp only [hg2, hg6, hg10, els]; done) | (simp only [hg2, hg6, hg10, els]; rfl) | simp [hg2, hg6, hg10])) (EL.cons (.inr (by first | rfl | (simp only [hg2, hg6, hg10, els]; done) | (simp only [hg2, hg6, hg10, els]; rfl) | simp [hg2, hg6, hg10])) (EL.cons (.inl rfl) (EL.cons (.inl rfl) (EL.cons (.inr (by first | rfl | (simp only [hg2, hg6, hg10, els]; done) | (simp only [hg2, hg6, hg10, els]; rfl) | simp [hg2, hg6, hg10])) (EL.cons (.inr (by first | rfl | (simp only [hg2, hg6, hg10, els]; done) | (simp only [hg2, hg6, hg10, els]; rfl) | simp [hg2, hg6, hg10])) (EL.cons (.inl rfl) (EL.cons (.inl rfl) (EL.cons (.inr (by first | rfl | (simp only [hg2, hg6, hg10, els]; done) | (simp only [hg2, hg6, hg10, els]; rfl) | simp [hg2, hg6, hg10])) (EL.cons (.inr (by first | rfl | (simp only [hg2, hg6, hg10, els]; done) | (simp only [hg2, hg6, hg10, els]; rfl) | simp [hg2, hg6, hg10])) (EL.cons (.inl rfl) (EL.cons (.inl rfl) (EL.cons (.inr rfl) (EL.cons (.inr rfl) (EL.cons (.inr rfl) (EL.refl _))))))))))))))))))))))))
      · have hg6 := eq_true_of_ne_false hg6
        refine w_g_off rfl rfl (by rw [hg6]; decide) ?_
        refine w_pick_1 rfl hg6 (by constructor) ?_
        refine w_move (by constructor) ?_
        refine w_g_off rfl rfl (by decide) ?_
        refine w_g_off rfl rfl (by decide) ?_
        refine w_pick_1 rfl rfl (by constructor) ?_
        refine w_move (by constructor) ?_
        refine w_g_off rfl rfl (by decide) ?_
        refine w_g_off rfl rfl (by decide) ?_
        refine w_pick_1 rfl rfl (by constructor) ?_
        refine w_move (by constructor) ?_
        refine w_g_off rfl rfl (by decide) ?_
        refine w_g_off rfl rfl (by decide) ?_
        refine w_pick_1 rfl rfl (by constructor) ?_
        refine w_assign (by constructor) ?_
        try simp only [Int.toNat_natCast] at hg2 hg6
        exact hRR _ (EL.cons (.inr (by first | rfl | (simp only [hg2, hg6, els]; done) | (simp only [hg2, hg6, els]; rfl) | simp [hg2, hg6])) (EL.cons (.inr (by first | rfl | (simp only [hg2, hg6, els]; done) | (simp only [hg2, hg6, els]; rfl) | simp [hg2, hg6])) (EL.cons (.inl rfl) (EL.cons (.inl rfl) (EL.cons (.inr (by first | rfl | (simp only [hg2, hg6, els]; done) | (simp only [hg2, hg6, els]; rfl) | simp [hg2, hg6])) (EL.cons (.inr (by first | rfl | (simp only [hg2, hg6, els]; done) | (simp only [hg2, hg6, els]; rfl) | simp [hg2, hg6])) (EL.cons (.inl rfl) (EL.cons (.inl rfl) (EL.cons (.inr (by first | rfl | (simp only [hg2, hg6, els]; done) | (simp only [hg2, hg6, els]; rfl) | simp [hg2, hg6])) (EL.cons (.inr (by first | rfl | (simp only [hg2, hg6, els]; done) | (simp only [hg2, hg6, els]; rfl) | simp [hg2, hg6])) (EL.cons (.inl rfl) (EL.cons (.inl rfl) (EL.cons (.inr (by first | rfl | (simp only [hg2, hg6, els]; done) | (simp only [hg2, hg6, els]; rfl) | simp [hg2, hg6])) (EL.cons (.inr (by first | rfl | (simp only [hg2, hg6, els]; done) | (simp only [hg2, hg6, els]; rfl) | simp [hg2, hg6])) (EL.cons (.inl rfl) (EL.cons (.inl rfl) (EL.cons (.inr (by first | rfl | (simp only [hg2, hg6, els]; done) | (simp only [hg2, hg6, els]; rfl) | simp [hg2, hg6])) (EL.cons (.inr (by first | rfl | (simp only [hg2, hg6, els]; done) | (simp only [hg2, hg6, els]; rfl) | simp [hg2, hg6])) (EL.cons (.inl rfl) (EL.cons (.inl rfl) (EL.cons (.inr rfl) (EL.cons (.inr rfl) (EL.cons (.inr rfl) (EL.refl _))))))))))))))))))))))))
    · have hg2 := eq_true_of_ne_false hg2
      refine w_g_off rfl rfl (by rw [hg2]; decide) ?_
      refine w_pick_1 rfl hg2 (by constructor) ?_
      refine w_move (by constructor) ?_
      refine w_g_off rfl rfl (by decide) ?_
      refine w_g_off rfl rfl (by decide) ?_
      refine w_pick_1 rfl rfl (by constructor) ?_
      refine w_move (by constructor) ?_
      refine w_g_off rfl rfl (by decide) ?_
      refine w_g_off rfl rfl (by decide) ?_
      refine w_pick_1 rfl rfl (by constructor) ?_
      refine w_move (by constructor) ?_
      refine w_g_off rfl rfl (by decide) ?_
      refine w_g_off rfl rfl (by decide) ?_
      refine w_pick_1 rfl rfl (by constructor) ?_
      refine w_move (by constructor) ?_
      refine w_g_off rfl rfl (by decide) ?_
      refine w_g_off rfl rfl (by decide) ?_
      refine w_pick_1 rfl rfl (by constructor) ?_
      refine w_assign (by constructor) ?_
      try simp only [Int.toNat_natCast] at hg2
      exact hRR _ (EL.cons (.inr (by first | rfl | (simp only [hg2, els]; done) | (simp only [hg2, els]; rfl) | simp [hg2])) (EL.cons (.inr (by first | rfl | (simp only [hg2, els]; done) | (simp only [hg2, els]; rfl) | simp [hg2])) (EL.cons (.inl rfl) (EL.cons (.inl rfl) (EL.cons (.inr (by first | rfl | (simp only [hg2, els]; done) | (simp only [hg2, els]; rfl) | simp [hg2])) (EL.cons (.inr (by first | rfl | (simp only [hg2, els]; done) | (simp only [hg2, els]; rfl) | simp [hg2])) (EL.cons (.inl rfl) (EL.cons (.inl rfl) (EL.cons (.inr (by first | rfl | (simp only [hg2, els]; done) | (simp only [hg2, els]; rfl) | simp [hg2])) (EL.cons (.inr (by first | rfl | (simp only [hg2, els]; done) | (simp only [hg2, els]; rfl) | simp [hg2])) (EL.cons (.inl rfl) (EL.cons (.inl rfl) (EL.cons (.inr (by first | rfl | (simp only [hg2, els]; done) | (simp only [hg2, els]; rfl) | simp [hg2])) (EL.cons (.inr (by first | rfl | (simp only [hg2, els]; done) | (simp only [hg2, els]; rfl) | simp [hg2])) (EL.cons (.inl rfl) (EL.cons (.inl rfl) (EL.cons (.inr (by first | rfl | (simp only [hg2, els]; done) | (simp only [hg2, els]; rfl) | simp [hg2])) (EL.cons (.inr (by first | rfl | (simp only [hg2, els]; done) | (simp only [hg2, els]; rfl) | simp [hg2])) (EL.cons (.inl rfl) (EL.cons (.inl rfl) (EL.cons (.inr rfl) (EL.cons (.inr rfl) (EL.cons (.inr rfl) (EL.refl _))))))))))))))))))))))))
  refine snd_ret ?_
  exact rt (T := TB) (fun V => by first | exact m_bool rfl | exact m_int rfl)
end Go.Am
set_option linter.unusedVariables false
set_option linter.unusedSimpArgs false
set_option maxRecDepth 4000
namespace Go.Am
attribute [local irreducible] retQ
open Go.Proofs
theorem c_tableOk {p n : Int} {T : Nat → Nat → Nat → Int} {fo : Nat → Int} (hT : B8T T) (hf : B8 fo) : ACalls Try.prog TB 124 [.cptr (algA p n T fo)] (.bool (decide (tabP p n T fo))) [] := by
  refine acalls_of tokTB Try.func124 rfl rfl (Nat.le_of_ble_eq_true rfl) ?_
  apply sr tokTB (by kernel_rfl)
  · intro RR hRR
    refine w_assign (by constructor) ?_
    exact hRR
  refine snd_seq ?_
  apply sr tokTB (by kernel_rfl)
  · intro RR hRR
    refine w_move (by constructor) ?_
    refine w_nilc rfl ?_
    refine w_fac rfl und31 rfl kn24 nz24 (by decide) rfl (by constructor) ?_
    refine w_ldc rfl kn24 (by constructor) (by exact sz24.symm) (by exact ag24.symm) ?_
    refine w_move (by constructor) ?_
    exact hRR
  refine snd_block ?_
  refine snd_loop (S := Nat) (fun i => ([(0, .cptr (algA p n T fo)), (10, tabA T), (11, .int .i64 (i : Int))], [])) (fun i => i ≤ 6 ∧ ∀ a, a < i → ∀ j, j < 6 → tabG p n T a j) (fun i => 6 - i) (0) ρ0 ?_ ?_ ?_
  · exact ⟨⟨m_calg, (by exact mt_tab (fun _ _ _ _ _ _ => rfl)), (by first | exact m_int rfl | exact m_int (by omega) | exact m_int (by simp; done) | (exact m_int (by simp; omega))), trivial⟩, trivial, trivial⟩
  · exact ⟨Nat.zero_le _, fun j hj => by omega⟩
  intro i hi0
  refine sq (env2 := [(0, .cptr (algA p n T fo)), (10, tabA T), (11, .int .i64 (i : Int))]) (ol2 := []) rfl rfl ?_
  obtain ⟨hi1, hi2⟩ := hi0
  apply sr tokTB (by kernel_rfl)
  · intro RR hRR
    refine w_lss rfl rfl ?_
    exact hRR
  refine snd_seq ?_
  refine snd_cond _ rfl (fun hc12 => ?_) (fun hc12 => ?_)
  · try simp only [hcs] at hc12
    refine snd_skip ?_
    refine snd_seq ?_
    refine snd_block ?_
    apply sr tokTB (by kernel_rfl)
    · intro RR hRR
      refine w_move (by constructor) ?_
      refine w_ixa rfl rfl und24 kn23 (by exact sz23.symm) ?_ (by constructor) (by exact ag23.symm) ?_
      · exact ⟨by omega, by omega⟩
      refine w_alloc kn23 rfl zr23 ?_
      refine w_assign (by constructor) ?_
      refine w_stw rfl (by constructor) kn23 rfl (by exact trivial) (by first | exact trivial | exact ssh_vec | exact ssh_alg | exact ssh_tab | exact ssh_mat | exact ⟨rfl, fun _ => trivial⟩ | exact ⟨rfl, fun _ => by rw [zr29]; exact ssh_vec⟩) (by exact sz23.symm) ?_
      exact hRR
    apply sr tokTB (by kernel_rfl)
    · intro RR hRR
      refine w_ldp rfl kn23 rfl (by constructor) (by exact sz23.symm) (by exact ag23.symm) ?_
      refine w_move (by constructor) ?_
      exact hRR
    refine snd_block ?_
    refine snd_loop (S := Nat) (fun j => ([(0, .cptr (algA p n T fo)), (3, .int .i64 (i : Int)), (10, tabA T), (11, .int .i64 (i : Int)), (15, matA (T i)), (16, .int .i64 (j : Int))], [])) (fun j => j ≤ 6 ∧ ∀ b, b < j → tabG p n T i b) (fun j => 6 - j) (0) ρ0 ?_ ?_ ?_
    · exact ⟨⟨m_calg, (by first | exact m_int rfl | exact m_int (by omega) | exact m_int (by simp; done) | (exact m_int (by simp; omega))), (by exact mt_tab (fun _ _ _ _ _ _ => rfl)), (by first | exact m_int rfl | exact m_int (by omega) | exact m_int (by simp; done) | (exact m_int (by simp; omega))), (by exact mt_mat (fun _ _ _ _ => rfl)), (by first | exact m_int rfl | exact m_int (by omega) | exact m_int (by simp; done) | (exact m_int (by simp; omega))), trivial⟩, trivial, trivial⟩
    · exact ⟨Nat.zero_le _, fun j hj => by omega⟩
    intro j hi2
    refine sq (env2 := [(0, .cptr (algA p n T fo)), (3, .int .i64 (i : Int)), (10, tabA T), (11, .int .i64 (i : Int)), (15, matA (T i)), (16, .int .i64 (j : Int))]) (ol2 := []) rfl rfl ?_
    obtain ⟨hj1, hj2⟩ := hi2
    apply sr tokTB (by kernel_rfl)
    · intro RR hRR
      refine w_lss rfl rfl ?_
      exact hRR
    refine snd_seq ?_
    refine snd_cond _ rfl (fun hc17 => ?_) (fun hc17 => ?_)
    · try simp only [hcs] at hc17
      refine snd_skip ?_
      refine snd_seq ?_
      refine snd_block ?_
      apply sr tokTB (by kernel_rfl)
      · intro RR hRR
        refine w_move (by constructor) ?_
        refine w_ixa rfl rfl und23 kn22 (by exact sz22.symm) ?_ (by constructor) (by exact ag22.symm) ?_
        · exact ⟨by omega, by omega⟩
        refine w_alloc kn22 rfl zr22 ?_
        refine w_assign (by constructor) ?_
        refine w_stw rfl (by constructor) kn22 rfl (by exact trivial) (by first | exact trivial | exact ssh_vec | exact ssh_alg | exact ssh_tab | exact ssh_mat | exact ⟨rfl, fun _ => trivial⟩ | exact ⟨rfl, fun _ => by rw [zr29]; exact ssh_vec⟩) (by exact sz22.symm) ?_
        exact hRR
      apply sdG (env' := (47, .bool (!(decide (smP p n (T i j))) || ((decide (n ≤ (i : Int)) || decide (n ≤ (j : Int))) && decide (¬ eqN 6 (T i j) (fun _ => 0))))) :: (46, .any) :: (45, .any) :: (44, .any) :: (43, .any) :: (42, .any) :: (41, .any) :: (40, .any) :: (39, .any) :: (38, .any) :: (37, .any) :: (36, .any) :: (35, .any) :: (34, .any) :: (33, .any) :: (32, .any) :: (31, _) :: (30, _) :: (29, _) :: (28, _) :: (27, _) :: (26, _) :: (25, _) :: (24, _) :: (23, _) :: (22, _) :: (21, _) :: (20, _) :: _) tokTB mixed (by kernel_rfl) (by kernel_rfl)
      · intro RR hRR
        refine w_ldp rfl kn22 rfl (by constructor) (by exact sz22.symm) (by exact ag22.symm) ?_
        refine w_move (by constructor) ?_
        first | refine w_nilc rfl ?_ | refine w_nilp rfl ?_ | refine w_nilf rfl ?_
        first | refine w_fac rfl und31 rfl kn2 nz2 (by decide) rfl (by constructor) ?_ | refine w_fap rfl und31 rfl kn2 nz2 rfl (by decide) rfl ?_
        first | refine w_ldc rfl kn2 (by constructor) (by exact sz2.symm) (by exact ag2.symm) ?_ | refine w_ldp rfl kn2 rfl (by constructor) (by exact sz2.symm) (by exact ag2.symm) ?_
        refine w_move (by constructor) ?_
        first | refine w_nilc rfl ?_ | refine w_nilp rfl ?_ | refine w_nilf rfl ?_
        first | refine w_fac rfl und31 rfl kn2 nz2 (by decide) rfl (by constructor) ?_ | refine w_fap rfl und31 rfl kn2 nz2 rfl (by decide) rfl ?_
        first | refine w_ldc rfl kn2 (by constructor) (by exact sz2.symm) (by exact ag2.symm) ?_ | refine w_ldp rfl kn2 rfl (by constructor) (by exact sz2.symm) (by exact ag2.symm) ?_
        refine y_call rfl (ec (ec (ec exn))) (c_isVector (v := T i j) (hT i j)) ?_
        refine w_not rfl ?_
        refine w_move (by constructor) ?_
        refine w_g rfl rfl (fun hg11 => ?_) (fun hg11 => ?_)
        · skip
          refine w_move (by constructor) ?_
          refine w_g_on rfl rfl hg11 ?_
          refine w_move (by constructor) ?_
          refine w_g_on rfl rfl hg11 ?_
          refine y_call rfl (ec exn) (c_n) ?_
          refine w_g_on rfl rfl hg11 ?_
          refine w_geq rfl rfl ?_
          refine w_g_on rfl rfl hg11 ?_
          refine w_move (by constructor) ?_
          refine w_g rfl rfl (fun hg16 => ?_) (fun hg16 => ?_)
          · skip
            refine w_move (by constructor) ?_
            refine w_g_on rfl rfl hg16 ?_
            refine w_move (by constructor) ?_
            refine w_g_on rfl rfl hg16 ?_
            refine y_call rfl (ec exn) (c_n) ?_
            refine w_g_on rfl rfl hg16 ?_
            refine w_geq rfl rfl ?_
            refine w_g_on rfl rfl hg11 ?_
            refine w_pick_0 rfl hg16 (by constructor) ?_
            refine w_g_on rfl rfl hg11 ?_
            refine w_move (by constructor) ?_
            refine w_g rfl rfl (fun hg22 => ?_) (fun hg22 => ?_)
            · skip
              refine w_ldp rfl kn22 rfl (by constructor) (by exact sz22.symm) (by exact ag22.symm) ?_
              refine w_g_on rfl rfl hg22 ?_
              refine w_bld_a kn22 zr22 und22 kn5 (fun _ => (by exact sz5.symm)) trivial rfl (by exact sz5.symm) ?_
              refine w_g_on rfl rfl hg22 ?_
              refine w_aneq rfl rfl und22 und5 ?_
              refine w_g_on rfl rfl hg11 ?_
              refine w_pick_1 rfl hg22 (by constructor) ?_
              refine w_pick_0 rfl hg11 (by constructor) ?_
              try simp only [Int.toNat_natCast] at hg11 hg16 hg22
              exact hRR _ (EL.cons (.inr (by first | rfl | (simp only [hg11, hg16, hg22, els]; done) | (simp only [hg11, hg16, hg22, els]; rfl) | simp [hg11, hg16, hg22])) (EL.cons (.inl rfl) (EL.cons (.inl rfl) (EL.cons (.inl rfl) (EL.cons (.inl rfl) (EL.cons (.inl rfl) (EL.cons (.inl rfl) (EL.cons (.inl rfl) (EL.cons (.inl rfl) (EL.cons (.inl rfl) (EL.cons (.inl rfl) (EL.cons (.inl rfl) (EL.cons (.inl rfl) (EL.cons (.inl rfl) (EL.cons (.inl rfl) (EL.cons (.inl rfl) (EL.cons (.inr rfl) (EL.cons (.inr rfl) (EL.cons (.inr rfl) (EL.cons (.inr rfl) (EL.cons (.inr rfl) (EL.cons (.inr rfl) (EL.cons (.inr rfl) (EL.cons (.inr rfl) (EL.cons (.inr rfl) (EL.cons (.inr rfl) (EL.cons (.inr rfl) (EL.cons (.inr rfl) (EL.refl _)))))))))))))))))))))))))))))
            · have hg22 := eq_false_of_ne_true hg22
              refine w_g_off rfl rfl (by rw [hg22]; decide) ?_
              refine w_g_off rfl rfl (by rw [hg22]; decide) ?_
              refine w_g_on rfl rfl hg11 ?_
              refine w_pick_0 rfl hg22 (by constructor) ?_
              refine w_pick_0 rfl hg11 (by constructor) ?_
              try simp only [Int.toNat_natCast] at hg11 hg16 hg22
              exact hRR _ (EL.cons (.inr (by first | rfl | (simp only [hg11, hg16, hg22, els]; done) | (simp only [hg11, hg16, hg22, els]; rfl) | simp [hg11, hg16, hg22])) (EL.cons (.inl rfl) (EL.cons (.inl rfl) (EL.cons (.inl rfl) (EL.cons (.inl rfl) (EL.cons (.inl rfl) (EL.cons (.inl rfl) (EL.cons (.inl rfl) (EL.cons (.inl rfl) (EL.cons (.inl rfl) (EL.cons (.inl rfl) (EL.cons (.inl rfl) (EL.cons (.inl rfl) (EL.cons (.inl rfl) (EL.cons (.inl rfl) (EL.cons (.inl rfl) (EL.cons (.inr rfl) (EL.cons (.inr rfl) (EL.cons (.inr rfl) (EL.cons (.inr rfl) (EL.cons (.inr rfl) (EL.cons (.inr rfl) (EL.cons (.inr rfl) (EL.cons (.inr rfl) (EL.cons (.inr rfl) (EL.cons (.inr rfl) (EL.cons (.inr rfl) (EL.cons (.inr rfl) (EL.refl _)))))))))))))))))))))))))))))
          · have hg16 := eq_true_of_ne_false hg16
            refine w_g_off rfl rfl (by rw [hg16]; decide) ?_
            refine w_g_off rfl rfl (by rw [hg16]; decide) ?_
            refine w_g_off rfl rfl (by rw [hg16]; decide) ?_
            refine w_g_on rfl rfl hg11 ?_
            refine w_pick_1 rfl hg16 (by constructor) ?_
            refine w_g_on rfl rfl hg11 ?_
            refine w_move (by constructor) ?_
            refine w_g_on rfl rfl rfl ?_
            refine w_ldp rfl kn22 rfl (by constructor) (by exact sz22.symm) (by exact ag22.symm) ?_
            refine w_g_on rfl rfl rfl ?_
            refine w_bld_a kn22 zr22 und22 kn5 (fun _ => (by exact sz5.symm)) trivial rfl (by exact sz5.symm) ?_
            refine w_g_on rfl rfl rfl ?_
            refine w_aneq rfl rfl und22 und5 ?_
            refine w_g_on rfl rfl hg11 ?_
            refine w_pick_1 rfl rfl (by constructor) ?_
            refine w_pick_0 rfl hg11 (by constructor) ?_
            try simp only [Int.toNat_natCast] at hg11 hg16
            exact hRR _ (EL.cons (.inr (by first | rfl | (simp only [hg11, hg16, els]; done) | (simp only [hg11, hg16, els]; rfl) | simp [hg11, hg16])) (EL.cons (.inl rfl) (EL.cons (.inl rfl) (EL.cons (.inl rfl) (EL.cons (.inl rfl) (EL.cons (.inl rfl) (EL.cons (.inl rfl) (EL.cons (.inl rfl) (EL.cons (.inl rfl) (EL.cons (.inl rfl) (EL.cons (.inl rfl) (EL.cons (.inl rfl) (EL.cons (.inl rfl) (EL.cons (.inl rfl) (EL.cons (.inl rfl) (EL.cons (.inl rfl) (EL.cons (.inr rfl) (EL.cons (.inr rfl) (EL.cons (.inr rfl) (EL.cons (.inr rfl) (EL.cons (.inr rfl) (EL.cons (.inr rfl) (EL.cons (.inr rfl) (EL.cons (.inr rfl) (EL.cons (.inr rfl) (EL.cons (.inr rfl) (EL.cons (.inr rfl) (EL.cons (.inr rfl) (EL.refl _)))))))))))))))))))))))))))))
        · have hg11 := eq_true_of_ne_false hg11
          refine w_g_off rfl rfl (by rw [hg11]; decide) ?_
          refine w_g_off rfl rfl (by rw [hg11]; decide) ?_
          refine w_g_off rfl rfl (by rw [hg11]; decide) ?_
          refine w_g_off rfl rfl (by rw [hg11]; decide) ?_
          refine w_g_und rfl rfl ?_
          refine w_g_und rfl rfl ?_
          refine w_g_und rfl rfl ?_
          refine w_g_und rfl rfl ?_
          refine w_g_off rfl rfl (by rw [hg11]; decide) ?_
          refine w_g_off rfl rfl (by rw [hg11]; decide) ?_
          refine w_g_und rfl rfl ?_
          refine w_g_und rfl rfl ?_
          refine w_g_und rfl rfl ?_
          refine w_g_off rfl rfl (by rw [hg11]; decide) ?_
          refine w_pick_1 rfl hg11 (by constructor) ?_
          try simp only [Int.toNat_natCast] at hg11
          exact hRR _ (EL.cons (.inr (by first | rfl | (simp only [hg11, els]; done) | (simp only [hg11, els]; rfl) | simp [hg11])) (EL.cons (.inl rfl) (EL.cons (.inl rfl) (EL.cons (.inl rfl) (EL.cons (.inl rfl) (EL.cons (.inl rfl) (EL.cons (.inl rfl) (EL.cons (.inl rfl) (EL.cons (.inl rfl) (EL.cons (.inl rfl) (EL.cons (.inl rfl) (EL.cons (.inl rfl) (EL.cons (.inl rfl) (EL.cons (.inl rfl) (EL.cons (.inl rfl) (EL.cons (.inl rfl) (EL.cons (.inr rfl) (EL.cons (.inr rfl) (EL.cons (.inr rfl) (EL.cons (.inr rfl) (EL.cons (.inr rfl) (EL.cons (.inr rfl) (EL.cons (.inr rfl) (EL.cons (.inr rfl) (EL.cons (.inr rfl) (EL.cons (.inr rfl) (EL.cons (.inr rfl) (EL.cons (.inr rfl) (EL.refl _)))))))))))))))))))))))))))))
      refine snd_cond _ rfl (fun hc47 => ?_) (fun hc47 => ?_)
      · skip
        apply sr tokTB (by kernel_rfl)
        · intro RR hRR
          refine w_assign (by constructor) ?_
          exact hRR
        refine snd_ret ?_
        exact rt (T := TB) (fun V => m_bool (by symm; rw [decide_eq_false_iff_not]; intro h; rw [tabG_iff.1 (h.1 i (by omega) j (by omega))] at hc47; cases hc47))
      · skip
        refine snd_skip ?_
        apply lr tokTB (by kernel_rfl)
        · intro RR hRR
          refine y_add rfl rfl ?_
          refine w_move (by constructor) ?_
          exact hRR
        refine ⟨j + 1, ρ0, ?_, ⟨by omega, all_step hj2 (tabG_iff.2 hc47)⟩, (by dsimp only; omega)⟩
        exact ⟨⟨m_calg, (by first | exact m_int rfl | exact m_int (by omega) | exact m_int (by simp; done) | (exact m_int (by simp; omega))), (by exact mt_tab (fun _ _ _ _ _ _ => rfl)), (by first | exact m_int rfl | exact m_int (by omega) | exact m_int (by simp; done) | (exact m_int (by simp; omega))), (by exact mt_mat (fun _ _ _ _ => rfl)), (by first | exact m_int rfl | exact m_int (by omega) | exact m_int (by simp; done) | (exact m_int (by simp; omega))), trivial⟩, trivial, trivial⟩
    · try simp only [hcs] at hc17
      refine snd_exit ?_
      apply lr tokTB (by kernel_rfl)
      · intro RR hRR
        refine y_add rfl rfl ?_
        refine w_move (by constructor) ?_
        exact hRR
      refine ⟨i + 1, ρ0, ?_, ⟨by omega, all_step hi2 (fun b hb => hj2 b (by omega))⟩, (by dsimp only; omega)⟩
      exact ⟨⟨m_calg, (by exact mt_tab (fun _ _ _ _ _ _ => rfl)), (by first | exact m_int rfl | exact m_int (by omega) | exact m_int (by simp; done) | (exact m_int (by simp; omega))), trivial⟩, trivial, trivial⟩
  · try simp only [hcs] at hc12
    refine snd_exit ?_
    apply sd tokTB mixed (by kernel_rfl) (by kernel_rfl)
    · intro RR hRR
      refine w_move (by constructor) ?_
      refine w_nilc rfl ?_
      refine w_fac rfl und31 rfl kn29 nz29 (by decide) rfl (by constructor) ?_
      refine w_ldc rfl kn29 (by constructor) (by exact sz29.symm) (by exact ag29.symm) ?_
      refine w_move (by constructor) ?_
      refine w_nilc rfl ?_
      refine w_fac rfl und31 rfl kn2 nz2 (by decide) rfl (by constructor) ?_
      refine w_ldc rfl kn2 (by constructor) (by exact sz2.symm) (by exact ag2.symm) ?_
      refine w_move (by constructor) ?_
      refine w_nilc rfl ?_
      refine w_fac rfl und31 rfl kn2 nz2 (by decide) rfl (by constructor) ?_
      refine w_ldc rfl kn2 (by constructor) (by exact sz2.symm) (by exact ag2.symm) ?_
      refine y_call rfl (ec (ec (ec exn))) (c_isVector hf) ?_
      refine w_assign (by constructor) ?_
      exact hRR
    refine snd_ret ?_
    exact rt (T := TB) (fun V => m_bool (tab_end (fun a ha b hb => hi2 a (by omega) b hb)))
theorem c_l01Shape {p n : Int} {T : Nat → Nat → Nat → Int} {fo : Nat → Int} (hT : B8T T) (hf : B8 fo) : ACalls Try.prog TB 113 [algA p n T fo] (.bool (decide (shapeP p n T fo))) [] := by
  refine acalls_of tokTB Try.func113 rfl rfl (Nat.le_of_ble_eq_true rfl) ?_
  apply sr tokTB (by kernel_rfl)
  · intro RR hRR
    refine w_boxc (HV.eq (by constructor)) (by exact trivial) ?_
    refine w_assign (by constructor) ?_
    exact hRR
  refine snd_seq ?_
  apply srG (env' := (25, .bool ((!(primeB p) || !(decide (1 ≤ n) && decide (n ≤ 6))) || !(decide (smP p n fo)))) :: (24, .any) :: (23, .any) :: (22, .any) :: (21, .any) :: (20, .any) :: (19, .any) :: (18, .any) :: (17, .any) :: (16, .bool (!(primeB p) || !(decide (1 ≤ n) && decide (n ≤ 6)))) :: (15, .bool (!(primeB p) || !(decide (1 ≤ n) && decide (n ≤ 6)))) :: (14, .any) :: (13, .any) :: (12, .any) :: (11, .any) :: (10, _) :: (9, _) :: (8, _) :: (7, _) :: (6, _) :: _) tokTB (by kernel_rfl)
  · intro RR hRR
    refine w_fac rfl und31 rfl kn2 nz2 (by decide) rfl (by constructor) ?_
    first | refine w_ldc rfl kn2 (by constructor) (by exact sz2.symm) (by exact ag2.symm) ?_ | refine w_ldp rfl kn2 rfl (by constructor) (by exact sz2.symm) (by exact ag2.symm) ?_
    refine y_call rfl (ec exn) (c_l01Prime) ?_
    refine w_not rfl ?_
    refine w_move (by constructor) ?_
    refine w_g rfl rfl (fun hg4 => ?_) (fun hg4 => ?_)
    · skip
      refine w_fac rfl und31 rfl kn2 nz2 (by decide) rfl (by constructor) ?_
      refine w_g_on rfl rfl hg4 ?_
      first | refine w_ldc rfl kn2 (by constructor) (by exact sz2.symm) (by exact ag2.symm) ?_ | refine w_ldp rfl kn2 rfl (by constructor) (by exact sz2.symm) (by exact ag2.symm) ?_
      refine w_g_on rfl rfl hg4 ?_
      refine y_call rfl (ec (ec (ec exn))) (c_l01In) ?_
      refine w_g_on rfl rfl hg4 ?_
      refine w_not rfl ?_
      refine w_pick_0 rfl hg4 (by constructor) ?_
      refine w_move (by constructor) ?_
      refine w_g rfl rfl (fun hg10 => ?_) (fun hg10 => ?_)
      · skip
        refine w_fac rfl und31 rfl kn2 nz2 (by decide) rfl (by constructor) ?_
        refine w_g_on rfl rfl hg10 ?_
        first | refine w_ldc rfl kn2 (by constructor) (by exact sz2.symm) (by exact ag2.symm) ?_ | refine w_ldp rfl kn2 rfl (by constructor) (by exact sz2.symm) (by exact ag2.symm) ?_
        refine w_g_on rfl rfl hg10 ?_
        refine w_fac rfl und31 rfl kn2 nz2 (by decide) rfl (by constructor) ?_
        refine w_g_on rfl rfl hg10 ?_
        first | refine w_ldc rfl kn2 (by constructor) (by exact sz2.symm) (by exact ag2.symm) ?_ | refine w_ldp rfl kn2 rfl (by constructor) (by exact sz2.symm) (by exact ag2.symm) ?_
        refine w_g_on rfl rfl hg10 ?_
        refine w_fac rfl und31 rfl kn29 nz29 (by decide) rfl (by constructor) ?_
        refine w_g_on rfl rfl hg10 ?_
        first | refine w_ldc rfl kn29 (by constructor) (by exact sz29.symm) (by exact ag29.symm) ?_ | refine w_ldp rfl kn29 rfl (by constructor) (by exact sz29.symm) (by exact ag29.symm) ?_
        refine w_g_on rfl rfl hg10 ?_
        refine y_call rfl (ec (ec (ec exn))) (c_l01Small hf) ?_
        refine w_g_on rfl rfl hg10 ?_
        refine w_not rfl ?_
        refine w_pick_0 rfl hg10 (by constructor) ?_
        try simp only [Int.toNat_natCast] at hg4 hg10
        exact hRR _ (EL.cons (.inr (by first | rfl | (simp only [hg4, hg10, els]; done) | (simp only [hg4, hg10, els]; rfl) | simp [hg4, hg10])) (EL.cons (.inl rfl) (EL.cons (.inl rfl) (EL.cons (.inl rfl) (EL.cons (.inl rfl) (EL.cons (.inl rfl) (EL.cons (.inl rfl) (EL.cons (.inl rfl) (EL.cons (.inl rfl) (EL.cons (.inr (by first | rfl | (simp only [hg4, hg10, els]; done) | (simp only [hg4, hg10, els]; rfl) | simp [hg4, hg10])) (EL.cons (.inr (by first | rfl | (simp only [hg4, hg10, els]; done) | (simp only [hg4, hg10, els]; rfl) | simp [hg4, hg10])) (EL.cons (.inl rfl) (EL.cons (.inl rfl) (EL.cons (.inl rfl) (EL.cons (.inl rfl) (EL.cons (.inr rfl) (EL.cons (.inr rfl) (EL.cons (.inr rfl) (EL.cons (.inr rfl) (EL.cons (.inr rfl) (EL.refl _)))))))))))))))))))))
      · have hg10 := eq_true_of_ne_false hg10
        refine w_g_off rfl rfl (by rw [hg10]; decide) ?_
        refine w_g_off rfl rfl (by rw [hg10]; decide) ?_
        refine w_g_off rfl rfl (by rw [hg10]; decide) ?_
        refine w_g_off rfl rfl (by rw [hg10]; decide) ?_
        refine w_g_off rfl rfl (by rw [hg10]; decide) ?_
        refine w_g_off rfl rfl (by rw [hg10]; decide) ?_
        refine w_g_off rfl rfl (by rw [hg10]; decide) ?_
        refine w_pick_1 rfl hg10 (by constructor) ?_
        try simp only [Int.toNat_natCast] at hg4 hg10
        exact hRR _ (EL.cons (.inr (by first | rfl | (simp only [hg4, hg10, els]; done) | (simp only [hg4, hg10, els]; rfl) | simp [hg4, hg10])) (EL.cons (.inl rfl) (EL.cons (.inl rfl) (EL.cons (.inl rfl) (EL.cons (.inl rfl) (EL.cons (.inl rfl) (EL.cons (.inl rfl) (EL.cons (.inl rfl) (EL.cons (.inl rfl) (EL.cons (.inr (by first | rfl | (simp only [hg4, hg10, els]; done) | (simp only [hg4, hg10, els]; rfl) | simp [hg4, hg10])) (EL.cons (.inr (by first | rfl | (simp only [hg4, hg10, els]; done) | (simp only [hg4, hg10, els]; rfl) | simp [hg4, hg10])) (EL.cons (.inl rfl) (EL.cons (.inl rfl) (EL.cons (.inl rfl) (EL.cons (.inl rfl) (EL.cons (.inr rfl) (EL.cons (.inr rfl) (EL.cons (.inr rfl) (EL.cons (.inr rfl) (EL.cons (.inr rfl) (EL.refl _)))))))))))))))))))))
    · have hg4 := eq_true_of_ne_false hg4
      refine w_g_off rfl rfl (by rw [hg4]; decide) ?_
      refine w_g_off rfl rfl (by rw [hg4]; decide) ?_
      refine w_g_off rfl rfl (by rw [hg4]; decide) ?_
      refine w_pick_1 rfl hg4 (by constructor) ?_
      refine w_move (by constructor) ?_
      refine w_g_off rfl rfl (by decide) ?_
      refine w_g_off rfl rfl (by decide) ?_
      refine w_g_off rfl rfl (by decide) ?_
      refine w_g_off rfl rfl (by decide) ?_
      refine w_g_off rfl rfl (by decide) ?_
      refine w_g_off rfl rfl (by decide) ?_
      refine w_g_off rfl rfl (by decide) ?_
      refine w_g_off rfl rfl (by decide) ?_
      refine w_pick_1 rfl rfl (by constructor) ?_
      try simp only [Int.toNat_natCast] at hg4
      exact hRR _ (EL.cons (.inr (by first | rfl | (simp only [hg4, els]; done) | (simp only [hg4, els]; rfl) | simp [hg4])) (EL.cons (.inl rfl) (EL.cons (.inl rfl) (EL.cons (.inl rfl) (EL.cons (.inl rfl) (EL.cons (.inl rfl) (EL.cons (.inl rfl) (EL.cons (.inl rfl) (EL.cons (.inl rfl) (EL.cons (.inr (by first | rfl | (simp only [hg4, els]; done) | (simp only [hg4, els]; rfl) | simp [hg4])) (EL.cons (.inr (by first | rfl | (simp only [hg4, els]; done) | (simp only [hg4, els]; rfl) | simp [hg4])) (EL.cons (.inl rfl) (EL.cons (.inl rfl) (EL.cons (.inl rfl) (EL.cons (.inl rfl) (EL.cons (.inr rfl) (EL.cons (.inr rfl) (EL.cons (.inr rfl) (EL.cons (.inr rfl) (EL.cons (.inr rfl) (EL.refl _)))))))))))))))))))))
  refine snd_cond _ rfl (fun hc25 => ?_) (fun hc25 => ?_)
  · skip
    apply sr tokTB (by kernel_rfl)
    · intro RR hRR
      refine w_assign (by constructor) ?_
      exact hRR
    refine snd_ret ?_
    exact rt (T := TB) (fun V => m_bool (by symm; rw [decide_eq_false_iff_not]; intro h; rw [h.1.1, decide_eq_true h.1.2.1.1, decide_eq_true h.1.2.1.2, decide_eq_true h.1.2.2] at hc25; cases hc25))
  · skip
    refine snd_skip ?_
    refine snd_seq ?_
    apply sr tokTB (by kernel_rfl)
    · intro RR hRR
      refine w_assign (by constructor) ?_
      exact hRR
    refine snd_block ?_
    refine snd_loop (S := Nat) (fun i => ([(1, .cptr (algA p n T fo)), (3, .int .i64 (i : Int))], [])) (fun i => i ≤ 6 ∧ ∀ a, a < i → ∀ j, j < 6 → smP p (sizeAt n a j) (T a j)) (fun i => 6 - i) (0) ρ0 ?_ ?_ ?_
    · exact ⟨⟨m_calg, (by first | exact m_int rfl | exact m_int (by omega) | exact m_int (by simp; done) | (exact m_int (by simp; omega))), trivial⟩, trivial, trivial⟩
    · exact ⟨Nat.zero_le _, fun j hj => by omega⟩
    intro i hi0
    refine sq (env2 := [(1, .cptr (algA p n T fo)), (3, .int .i64 (i : Int))]) (ol2 := []) rfl rfl ?_
    obtain ⟨hi1, hi2⟩ := hi0
    refine snd_seq ?_
    apply sr tokTB (by kernel_rfl)
    · intro RR hRR
      refine w_move (by constructor) ?_
      refine w_lss rfl rfl ?_
      exact hRR
    refine snd_cond _ rfl (fun hc27 => ?_) (fun hc27 => ?_)
    · try simp only [hcs] at hc27
      refine snd_skip ?_
      refine snd_seq ?_
      refine snd_block ?_
      apply sr tokTB (by kernel_rfl)
      · intro RR hRR
        refine w_assign (by constructor) ?_
        exact hRR
      refine snd_block ?_
      refine snd_loop (S := Nat) (fun j => ([(1, .cptr (algA p n T fo)), (3, .int .i64 (i : Int)), (4, .int .i64 (j : Int))], [])) (fun j => j ≤ 6 ∧ ∀ b, b < j → smP p (sizeAt n i b) (T i b)) (fun j => 6 - j) (0) ρ0 ?_ ?_ ?_
      · exact ⟨⟨m_calg, (by first | exact m_int rfl | exact m_int (by omega) | exact m_int (by simp; done) | (exact m_int (by simp; omega))), (by first | exact m_int rfl | exact m_int (by omega) | exact m_int (by simp; done) | (exact m_int (by simp; omega))), trivial⟩, trivial, trivial⟩
      · exact ⟨Nat.zero_le _, fun j hj => by omega⟩
      intro j hi2
      refine sq (env2 := [(1, .cptr (algA p n T fo)), (3, .int .i64 (i : Int)), (4, .int .i64 (j : Int))]) (ol2 := []) rfl rfl ?_
      obtain ⟨hj1, hj2⟩ := hi2
      refine snd_seq ?_
      apply sr tokTB (by kernel_rfl)
      · intro RR hRR
        refine w_move (by constructor) ?_
        refine w_lss rfl rfl ?_
        exact hRR
      refine snd_cond _ rfl (fun hc31 => ?_) (fun hc31 => ?_)
      · try simp only [hcs] at hc31
        refine snd_skip ?_
        refine snd_seq ?_
        refine snd_block ?_
        apply sr tokTB (by kernel_rfl)
        · intro RR hRR
          refine w_fac rfl und31 rfl kn2 nz2 (by decide) rfl (by constructor) ?_
          refine w_ldc rfl kn2 (by constructor) (by exact sz2.symm) (by exact ag2.symm) ?_
          refine w_assign (by constructor) ?_
          exact hRR
        refine snd_seq ?_
        apply srG (env' := (43, .bool (decide (n ≤ (i : Int)) || decide (n ≤ (j : Int)))) :: (42, .any) :: (41, .any) :: (40, .any) :: (39, _) :: (38, _) :: (37, _) :: (36, _) :: _) tokTB (by kernel_rfl)
        · intro RR hRR
          refine w_move (by constructor) ?_
          refine w_move (by constructor) ?_
          refine w_geq rfl rfl ?_
          refine w_move (by constructor) ?_
          refine w_g rfl rfl (fun hg3 => ?_) (fun hg3 => ?_)
          · skip
            refine w_move (by constructor) ?_
            refine w_g_on rfl rfl hg3 ?_
            refine w_move (by constructor) ?_
            refine w_g_on rfl rfl hg3 ?_
            refine w_geq rfl rfl ?_
            refine w_pick_0 rfl hg3 (by constructor) ?_
            try simp only [Int.toNat_natCast] at hg3
            exact hRR _ (EL.cons (.inr (by first | rfl | (simp only [hg3, els]; done) | (simp only [hg3, els]; rfl) | simp [hg3])) (EL.cons (.inl rfl) (EL.cons (.inl rfl) (EL.cons (.inl rfl) (EL.cons (.inr rfl) (EL.cons (.inr rfl) (EL.cons (.inr rfl) (EL.cons (.inr rfl) (EL.refl _)))))))))
          · have hg3 := eq_true_of_ne_false hg3
            refine w_g_off rfl rfl (by rw [hg3]; decide) ?_
            refine w_g_off rfl rfl (by rw [hg3]; decide) ?_
            refine w_pick_1 rfl hg3 (by constructor) ?_
            try simp only [Int.toNat_natCast] at hg3
            exact hRR _ (EL.cons (.inr (by first | rfl | (simp only [hg3, els]; done) | (simp only [hg3, els]; rfl) | simp [hg3])) (EL.cons (.inl rfl) (EL.cons (.inl rfl) (EL.cons (.inl rfl) (EL.cons (.inr rfl) (EL.cons (.inr rfl) (EL.cons (.inr rfl) (EL.cons (.inr rfl) (EL.refl _)))))))))
        refine snd_cond _ rfl (fun hc43 => ?_) (fun hc43 => ?_)
        · skip
          have hs : sizeAt n i j = 0 := if_pos (by simpa using hc43)
          apply lr tokTB (by kernel_rfl)
          · intro RR hRR
            refine w_assign (by constructor) ?_
            exact hRR
          apply sd tokTB mixed (by kernel_rfl) (by kernel_rfl)
          · intro RR hRR
            refine w_fac rfl und31 rfl kn2 nz2 (by decide) rfl (by constructor) ?_
            refine w_ldc rfl kn2 (by constructor) (by exact sz2.symm) (by exact ag2.symm) ?_
            refine w_move (by constructor) ?_
            refine w_move (by constructor) ?_
            refine w_move (by constructor) ?_
            refine w_fac rfl und31 rfl kn24 nz24 (by decide) rfl (by constructor) ?_
            refine w_iac rfl rfl und24 kn23 (by exact sz23.symm) ?_ rfl ?_
            · exact ⟨by omega, by omega⟩
            refine w_iac rfl rfl und23 kn22 (by exact sz22.symm) ?_ rfl ?_
            · exact ⟨by omega, by omega⟩
            refine w_ldc rfl kn22 (by constructor) (by exact sz22.symm) (by exact ag22.symm) ?_
            refine y_call rfl (ec (ec (ec exn))) (c_l01Small (v := T i j) (hT i j)) ?_
            refine w_not rfl ?_
            exact hRR
          refine snd_cond _ rfl (fun hc54 => ?_) (fun hc54 => ?_)
          · skip
            apply sr tokTB (by kernel_rfl)
            · intro RR hRR
              refine w_assign (by constructor) ?_
              exact hRR
            refine snd_ret ?_
            exact rt (T := TB) (fun V => m_bool (by symm; rw [decide_eq_false_iff_not]; intro h; have h2 := h.2 i (by omega) j (by omega); rw [hs] at h2; rw [decide_eq_true h2] at hc54; cases hc54))
          · skip
            refine snd_skip ?_
            apply lr tokTB (by kernel_rfl)
            · intro RR hRR
              refine w_move (by constructor) ?_
              refine y_add rfl rfl ?_
              refine w_assign (by constructor) ?_
              exact hRR
            refine ⟨j + 1, ρ0, ?_, ⟨by omega, all_step hj2 (by rw [hs]; exact of_decide_eq_true (by simpa only [Bool.not_eq_false'] using hc54))⟩, (by dsimp only; omega)⟩
            exact ⟨⟨m_calg, (by first | exact m_int rfl | exact m_int (by omega) | exact m_int (by simp; done) | (exact m_int (by simp; omega))), (by first | exact m_int rfl | exact m_int (by omega) | exact m_int (by simp; done) | (exact m_int (by simp; omega))), trivial⟩, trivial, trivial⟩
        · skip
          have hs : sizeAt n i j = n := if_neg (by simpa using hc43)
          refine snd_skip ?_
          apply sd tokTB mixed (by kernel_rfl) (by kernel_rfl)
          · intro RR hRR
            refine w_fac rfl und31 rfl kn2 nz2 (by decide) rfl (by constructor) ?_
            refine w_ldc rfl kn2 (by constructor) (by exact sz2.symm) (by exact ag2.symm) ?_
            refine w_move (by constructor) ?_
            refine w_move (by constructor) ?_
            refine w_move (by constructor) ?_
            refine w_fac rfl und31 rfl kn24 nz24 (by decide) rfl (by constructor) ?_
            refine w_iac rfl rfl und24 kn23 (by exact sz23.symm) ?_ rfl ?_
            · exact ⟨by omega, by omega⟩
            refine w_iac rfl rfl und23 kn22 (by exact sz22.symm) ?_ rfl ?_
            · exact ⟨by omega, by omega⟩
            refine w_ldc rfl kn22 (by constructor) (by exact sz22.symm) (by exact ag22.symm) ?_
            refine y_call rfl (ec (ec (ec exn))) (c_l01Small (v := T i j) (hT i j)) ?_
            refine w_not rfl ?_
            exact hRR
          refine snd_cond _ rfl (fun hc54 => ?_) (fun hc54 => ?_)
          · skip
            apply sr tokTB (by kernel_rfl)
            · intro RR hRR
              refine w_assign (by constructor) ?_
              exact hRR
            refine snd_ret ?_
            exact rt (T := TB) (fun V => m_bool (by symm; rw [decide_eq_false_iff_not]; intro h; have h2 := h.2 i (by omega) j (by omega); rw [hs] at h2; rw [decide_eq_true h2] at hc54; cases hc54))
          · skip
            refine snd_skip ?_
            apply lr tokTB (by kernel_rfl)
            · intro RR hRR
              refine w_move (by constructor) ?_
              refine y_add rfl rfl ?_
              refine w_assign (by constructor) ?_
              exact hRR
            refine ⟨j + 1, ρ0, ?_, ⟨by omega, all_step hj2 (by rw [hs]; exact of_decide_eq_true (by simpa only [Bool.not_eq_false'] using hc54))⟩, (by dsimp only; omega)⟩
            exact ⟨⟨m_calg, (by first | exact m_int rfl | exact m_int (by omega) | exact m_int (by simp; done) | (exact m_int (by simp; omega))), (by first | exact m_int rfl | exact m_int (by omega) | exact m_int (by simp; done) | (exact m_int (by simp; omega))), trivial⟩, trivial, trivial⟩
      · try simp only [hcs] at hc31
        refine snd_exit ?_
        apply lr tokTB (by kernel_rfl)
        · intro RR hRR
          refine w_move (by constructor) ?_
          refine y_add rfl rfl ?_
          refine w_assign (by constructor) ?_
          exact hRR
        refine ⟨i + 1, ρ0, ?_, ⟨by omega, all_step hi2 (fun b hb => hj2 b (by omega))⟩, (by dsimp only; omega)⟩
        exact ⟨⟨m_calg, (by first | exact m_int rfl | exact m_int (by omega) | exact m_int (by simp; done) | (exact m_int (by simp; omega))), trivial⟩, trivial, trivial⟩
    · try simp only [hcs] at hc27
      refine snd_exit ?_
      apply sr tokTB (by kernel_rfl)
      · intro RR hRR
        refine w_assign (by constructor) ?_
        exact hRR
      refine snd_ret ?_
      exact rt (T := TB) (fun V => m_bool (by symm; rw [decide_eq_true_eq]; simp only [Bool.or_eq_false_iff, Bool.not_eq_false', Bool.and_eq_true, decide_eq_true_eq] at hc25; exact ⟨⟨hc25.1.1, hc25.1.2, hc25.2⟩, fun a ha b hb => hi2 a (by omega) b hb⟩))
theorem c_associative {p : Int} {n : Nat} {T : Nat → Nat → Nat → Int} {fo : Nat → Int} (hp : 0 < p) (hp2 : p < 256) (hn : n ≤ 6) (hT : B8T T) : ACalls Try.prog TB 125 [.cptr (algA p (n : Int) T fo)] (.bool (decide (assocP p n T))) [] := by
  refine acalls_of tokTB Try.func125 rfl rfl (Nat.le_of_ble_eq_true rfl) ?_
  apply sr tokTB (by kernel_rfl)
  · intro RR hRR
    refine w_assign (by constructor) ?_
    exact hRR
  refine snd_seq ?_
  apply sr tokTB (by kernel_rfl)
  · intro RR hRR
    refine w_move (by constructor) ?_
    refine y_call rfl (ec exn) (c_n) ?_
    refine w_move (by constructor) ?_
    exact hRR
  refine snd_block ?_
  refine snd_loop (S := Nat) (fun i => ([(0, .cptr (algA p (n : Int) T fo)), (7, .int .i64 (n : Int)), (8, .int .i64 (i : Int))], [])) (fun i => i ≤ n ∧ ∀ a, a < i → ∀ j, j < n → ∀ k, k < n → assocG p n T a j k) (fun i => n - i) (0) ρ0 ?_ ?_ ?_
  · exact ⟨⟨m_calg, (by first | exact m_int rfl | exact m_int (by omega) | exact m_int (by simp; done) | (exact m_int (by simp; omega))), (by first | exact m_int rfl | exact m_int (by omega) | exact m_int (by simp; done) | (exact m_int (by simp; omega))), trivial⟩, trivial, trivial⟩
  · exact ⟨Nat.zero_le _, fun j hj => by omega⟩
  intro i hi0
  refine sq (env2 := [(0, .cptr (algA p (n : Int) T fo)), (7, .int .i64 (n : Int)), (8, .int .i64 (i : Int))]) (ol2 := []) rfl rfl ?_
  obtain ⟨hi1, hi2⟩ := hi0
  apply sr tokTB (by kernel_rfl)
  · intro RR hRR
    refine w_lss rfl rfl ?_
    exact hRR
  refine snd_seq ?_
  refine snd_cond _ rfl (fun hc9 => ?_) (fun hc9 => ?_)
  · try simp only [hcs] at hc9
    refine snd_skip ?_
    refine snd_seq ?_
    refine snd_block ?_
    apply sr tokTB (by kernel_rfl)
    · intro RR hRR
      refine w_move (by constructor) ?_
      refine w_assign (by constructor) ?_
      exact hRR
    apply sr tokTB (by kernel_rfl)
    · intro RR hRR
      refine w_move (by constructor) ?_
      refine y_call rfl (ec exn) (c_n) ?_
      refine w_move (by constructor) ?_
      exact hRR
    refine snd_block ?_
    refine snd_loop (S := Nat) (fun j => ([(0, .cptr (algA p (n : Int) T fo)), (3, .int .i64 (i : Int)), (7, .int .i64 (n : Int)), (8, .int .i64 (i : Int)), (12, .int .i64 (n : Int)), (13, .int .i64 (j : Int))], [])) (fun j => j ≤ n ∧ ∀ b, b < j → ∀ k, k < n → assocG p n T i b k) (fun j => n - j) (0) ρ0 ?_ ?_ ?_
    · exact ⟨⟨m_calg, (by first | exact m_int rfl | exact m_int (by omega) | exact m_int (by simp; done) | (exact m_int (by simp; omega))), (by first | exact m_int rfl | exact m_int (by omega) | exact m_int (by simp; done) | (exact m_int (by simp; omega))), (by first | exact m_int rfl | exact m_int (by omega) | exact m_int (by simp; done) | (exact m_int (by simp; omega))), (by first | exact m_int rfl | exact m_int (by omega) | exact m_int (by simp; done) | (exact m_int (by simp; omega))), (by first | exact m_int rfl | exact m_int (by omega) | exact m_int (by simp; done) | (exact m_int (by simp; omega))), trivial⟩, trivial, trivial⟩
    · exact ⟨Nat.zero_le _, fun j hj => by omega⟩
    intro j hi2
    refine sq (env2 := [(0, .cptr (algA p (n : Int) T fo)), (3, .int .i64 (i : Int)), (7, .int .i64 (n : Int)), (8, .int .i64 (i : Int)), (12, .int .i64 (n : Int)), (13, .int .i64 (j : Int))]) (ol2 := []) rfl rfl ?_
    obtain ⟨hj1, hj2⟩ := hi2
    apply sr tokTB (by kernel_rfl)
    · intro RR hRR
      refine w_lss rfl rfl ?_
      exact hRR
    refine snd_seq ?_
    refine snd_cond _ rfl (fun hc14 => ?_) (fun hc14 => ?_)
    · try simp only [hcs] at hc14
      refine snd_skip ?_
      refine snd_seq ?_
      refine snd_block ?_
      apply sr tokTB (by kernel_rfl)
      · intro RR hRR
        refine w_move (by constructor) ?_
        refine w_assign (by constructor) ?_
        exact hRR
      apply sr tokTB (by kernel_rfl)
      · intro RR hRR
        refine w_move (by constructor) ?_
        refine y_call rfl (ec exn) (c_n) ?_
        refine w_move (by constructor) ?_
        exact hRR
      refine snd_block ?_
      refine snd_loop (S := Nat) (fun k => ([(0, .cptr (algA p (n : Int) T fo)), (3, .int .i64 (i : Int)), (4, .int .i64 (j : Int)), (7, .int .i64 (n : Int)), (8, .int .i64 (i : Int)), (12, .int .i64 (n : Int)), (13, .int .i64 (j : Int)), (17, .int .i64 (n : Int)), (18, .int .i64 (k : Int))], [])) (fun k => k ≤ n ∧ ∀ c, c < k → assocG p n T i j c) (fun k => n - k) (0) ρ0 ?_ ?_ ?_
      · exact ⟨⟨m_calg, (by first | exact m_int rfl | exact m_int (by omega) | exact m_int (by simp; done) | (exact m_int (by simp; omega))), (by first | exact m_int rfl | exact m_int (by omega) | exact m_int (by simp; done) | (exact m_int (by simp; omega))), (by first | exact m_int rfl | exact m_int (by omega) | exact m_int (by simp; done) | (exact m_int (by simp; omega))), (by first | exact m_int rfl | exact m_int (by omega) | exact m_int (by simp; done) | (exact m_int (by simp; omega))), (by first | exact m_int rfl | exact m_int (by omega) | exact m_int (by simp; done) | (exact m_int (by simp; omega))), (by first | exact m_int rfl | exact m_int (by omega) | exact m_int (by simp; done) | (exact m_int (by simp; omega))), (by first | exact m_int rfl | exact m_int (by omega) | exact m_int (by simp; done) | (exact m_int (by simp; omega))), (by first | exact m_int rfl | exact m_int (by omega) | exact m_int (by simp; done) | (exact m_int (by simp; omega))), trivial⟩, trivial, trivial⟩
      · exact ⟨Nat.zero_le _, fun j hj => by omega⟩
      intro k hi4
      refine sq (env2 := [(0, .cptr (algA p (n : Int) T fo)), (3, .int .i64 (i : Int)), (4, .int .i64 (j : Int)), (7, .int .i64 (n : Int)), (8, .int .i64 (i : Int)), (12, .int .i64 (n : Int)), (13, .int .i64 (j : Int)), (17, .int .i64 (n : Int)), (18, .int .i64 (k : Int))]) (ol2 := []) rfl rfl ?_
      obtain ⟨hk1, hk2⟩ := hi4
      apply sr tokTB (by kernel_rfl)
      · intro RR hRR
        refine w_lss rfl rfl ?_
        exact hRR
      refine snd_seq ?_
      refine snd_cond _ rfl (fun hc19 => ?_) (fun hc19 => ?_)
      · try simp only [hcs] at hc19
        refine snd_skip ?_
        refine snd_seq ?_
        refine snd_block ?_
        apply sr tokTB (by kernel_rfl)
        · intro RR hRR
          refine w_move (by constructor) ?_
          refine w_assign (by constructor) ?_
          exact hRR
        apply sd tokTB mixed (by kernel_rfl) (by kernel_rfl)
        · intro RR hRR
          refine w_move (by constructor) ?_
          refine w_move (by constructor) ?_
          refine w_move (by constructor) ?_
          refine w_move (by constructor) ?_
          refine w_nilc rfl ?_
          refine w_fac rfl und31 rfl kn24 nz24 (by decide) rfl (by constructor) ?_
          refine w_iac rfl rfl und24 kn23 (by exact sz23.symm) ?_ rfl ?_
          · exact ⟨by omega, by omega⟩
          refine w_iac rfl rfl und23 kn22 (by exact sz22.symm) ?_ rfl ?_
          · exact ⟨by omega, by omega⟩
          refine w_ldc rfl kn22 (by constructor) (by exact sz22.symm) (by exact ag22.symm) ?_
          refine w_move (by constructor) ?_
          refine y_call rfl (ec exn) (c_basis (by omega)) ?_
          refine y_call rfl (ec (ec (ec exn))) (c_times (u := T i j) (v := eF k) hp hp2 hn hT (hT i j) (eF_B8 k)) ?_
          refine w_move (by constructor) ?_
          refine w_move (by constructor) ?_
          refine y_call rfl (ec exn) (c_basis (by omega)) ?_
          refine w_move (by constructor) ?_
          refine w_move (by constructor) ?_
          refine w_move (by constructor) ?_
          refine w_nilc rfl ?_
          refine w_fac rfl und31 rfl kn24 nz24 (by decide) rfl (by constructor) ?_
          refine w_iac rfl rfl und24 kn23 (by exact sz23.symm) ?_ rfl ?_
          · exact ⟨by omega, by omega⟩
          refine w_iac rfl rfl und23 kn22 (by exact sz22.symm) ?_ rfl ?_
          · exact ⟨by omega, by omega⟩
          refine w_ldc rfl kn22 (by constructor) (by exact sz22.symm) (by exact ag22.symm) ?_
          refine y_call rfl (ec (ec (ec exn))) (c_times (u := eF i) (v := T j k) hp hp2 hn hT (eF_B8 i) (hT j k)) ?_
          refine w_aneq rfl rfl und29 und5 ?_
          exact hRR
        refine snd_cond _ rfl (fun hc45 => ?_) (fun hc45 => ?_)
        · skip
          apply sr tokTB (by kernel_rfl)
          · intro RR hRR
            refine w_assign (by constructor) ?_
            exact hRR
          refine snd_ret ?_
          exact rt (T := TB) (fun V => m_bool (by symm; rw [decide_eq_false_iff_not]; intro h; exact of_decide_eq_true (p := ¬ eqN 6 _ _) hc45 (h i (by omega) j (by omega) k (by omega))))
        · skip
          refine snd_skip ?_
          apply lr tokTB (by kernel_rfl)
          · intro RR hRR
            refine y_add rfl rfl ?_
            refine w_move (by constructor) ?_
            exact hRR
          refine ⟨k + 1, ρ0, ?_, ⟨by omega, all_step hk2 (Classical.not_not.1 (of_decide_eq_false (p := ¬ eqN 6 _ _) hc45))⟩, (by dsimp only; omega)⟩
          exact ⟨⟨m_calg, (by first | exact m_int rfl | exact m_int (by omega) | exact m_int (by simp; done) | (exact m_int (by simp; omega))), (by first | exact m_int rfl | exact m_int (by omega) | exact m_int (by simp; done) | (exact m_int (by simp; omega))), (by first | exact m_int rfl | exact m_int (by omega) | exact m_int (by simp; done) | (exact m_int (by simp; omega))), (by first | exact m_int rfl | exact m_int (by omega) | exact m_int (by simp; done) | (exact m_int (by simp; omega))), (by first | exact m_int rfl | exact m_int (by omega) | exact m_int (by simp; done) | (exact m_int (by simp; omega))), (by first | exact m_int rfl | exact m_int (by omega) | exact m_int (by simp; done) | (exact m_int (by simp; omega))), (by first | exact m_int rfl | exact m_int (by omega) | exact m_int (by simp; done) | (exact m_int (by simp; omega))), (by first | exact m_int rfl | exact m_int (by omega) | exact m_int (by simp; done) | (exact m_int (by simp; omega))), trivial⟩, trivial, trivial⟩
      · try simp only [hcs] at hc19
        refine snd_exit ?_
        apply lr tokTB (by kernel_rfl)
        · intro RR hRR
          refine y_add rfl rfl ?_
          refine w_move (by constructor) ?_
          exact hRR
        refine ⟨j + 1, ρ0, ?_, ⟨by omega, all_step hj2 (fun b hb => hk2 b (by omega))⟩, (by dsimp only; omega)⟩
        exact ⟨⟨m_calg, (by first | exact m_int rfl | exact m_int (by omega) | exact m_int (by simp; done) | (exact m_int (by simp; omega))), (by first | exact m_int rfl | exact m_int (by omega) | exact m_int (by simp; done) | (exact m_int (by simp; omega))), (by first | exact m_int rfl | exact m_int (by omega) | exact m_int (by simp; done) | (exact m_int (by simp; omega))), (by first | exact m_int rfl | exact m_int (by omega) | exact m_int (by simp; done) | (exact m_int (by simp; omega))), (by first | exact m_int rfl | exact m_int (by omega) | exact m_int (by simp; done) | (exact m_int (by simp; omega))), trivial⟩, trivial, trivial⟩
    · try simp only [hcs] at hc14
      refine snd_exit ?_
      apply lr tokTB (by kernel_rfl)
      · intro RR hRR
        refine y_add rfl rfl ?_
        refine w_move (by constructor) ?_
        exact hRR
      refine ⟨i + 1, ρ0, ?_, ⟨by omega, all_step hi2 (fun b hb => hj2 b (by omega))⟩, (by dsimp only; omega)⟩
      exact ⟨⟨m_calg, (by first | exact m_int rfl | exact m_int (by omega) | exact m_int (by simp; done) | (exact m_int (by simp; omega))), (by first | exact m_int rfl | exact m_int (by omega) | exact m_int (by simp; done) | (exact m_int (by simp; omega))), trivial⟩, trivial, trivial⟩
  · try simp only [hcs] at hc9
    refine snd_exit ?_
    apply sr tokTB (by kernel_rfl)
    · intro RR hRR
      refine w_assign (by constructor) ?_
      exact hRR
    refine snd_ret ?_
    exact rt (T := TB) (fun V => m_bool (by symm; rw [decide_eq_true_eq]; exact fun a ha b hb c hc => hi2 a (by omega) b hb c hc))
end Go.Am
