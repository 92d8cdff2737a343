/-
  SUPERBLOCK (chapter 36): the functions of the program that are looked at, the plans of their drawn regions, the tables; the replaced functions without a body.
-/
import Derived.Test.YtcjjlajpbakaoaaGreatDoorVap4
import Derived.Test.YtcjjlajpbakaoaaGreatDoorChecked
namespace Go.Proofs.YtcjjlajpbakaoaaGreatDoor
open Go.Va

def plans : Nat → Nat → Option Plan
  | 3, 9 => some ⟨[(0, true), (1, true), (2, true), (3, false), (4, false), (5, false), (6, true), (7, true), (8, false), (9, false), (10, false), (11, true), (12, true), (13, false), (14, false), (15, false), (16, true), (17, true), (18, false), (19, false), (20, false), (21, true), (22, true), (23, false), (24, false), (25, false), (26, true), (27, true), (28, false), (29, false), (30, false), (31, true), (32, true), (33, false), (34, false), (35, false), (36, true), (37, true), (38, false), (39, false), (40, false), (41, true), (42, true), (43, false), (44, false), (45, false), (46, false), (47, false), (48, false)], [3, 1, 1, 1, 2, 1, 1, 1, 2, 1, 1, 1, 2, 1, 1, 1, 2, 1, 1, 1, 2, 1, 1, 1, 2, 1, 1, 1, 2, 1, 1, 1, 2, 1, 1, 1, 1, 1, 1], [], []⟩
  | 4, 8 => some ⟨[(0, true), (1, true), (2, false), (3, false), (4, true), (5, true), (6, false), (7, false), (8, false), (9, true), (10, true), (11, true), (12, false), (13, false), (14, false), (15, true), (16, true), (17, false), (18, false), (19, false), (20, true), (21, true), (22, false), (23, false), (24, false), (25, false), (26, false), (27, false)], [2, 1, 1, 2, 1, 1, 1, 3, 1, 1, 1, 2, 1, 1, 1, 2, 1, 1, 1, 1, 1, 1], [], []⟩
  | 6, 3 => some ⟨[(0, true), (1, true), (2, true), (3, true), (4, true), (5, true), (6, false), (7, false)], [6, 1, 1], [], []⟩
  | 6, 12 => some ⟨[(0, true), (1, true), (2, true), (3, true), (4, true), (5, true), (6, true), (7, true), (8, false), (9, false), (10, true), (11, true), (12, true), (13, true), (14, true), (15, true), (16, true), (17, true), (18, false), (19, false)], [8, 1, 1, 8, 1, 1], [], []⟩
  | 7, 7 => some ⟨[(0, false), (1, false), (2, false), (3, false), (4, false), (5, false), (6, false), (7, false), (8, false), (9, false), (10, false), (11, false), (12, false), (13, false), (14, true), (15, true), (16, true), (17, true), (18, true), (19, false), (20, false)], [1, 1, 1, 1, 1, 1, 1, 1, 1, 1, 1, 1, 1, 1, 5, 1, 1], [], []⟩
  | 9, 1 => some ⟨[(0, true), (1, true), (2, true), (3, true), (4, true), (5, true), (6, false), (7, false)], [6, 1, 1], [], []⟩
  | 12, 15 => some ⟨[(0, true), (1, true), (2, true), (3, true), (4, true), (5, true), (6, true), (7, true), (8, false), (9, false)], [8, 1, 1], [], []⟩
  | 12, 20 => some ⟨[(0, true), (1, true), (2, true), (3, false), (4, false), (5, true), (6, true), (7, false), (8, false)], [3, 1, 1, 2, 1, 1], [], []⟩
  | 12, 23 => some ⟨[(0, true), (1, true), (2, true), (3, true), (4, true), (5, true), (6, true), (7, false), (8, false)], [7, 1, 1], [], []⟩
  | 12, 29 => some ⟨[(0, true), (1, true), (2, true), (3, true), (4, true), (5, true), (6, true), (7, true), (8, true), (9, true), (10, true), (11, false), (12, false)], [11, 1, 1], [], []⟩
  | 13, 15 => some ⟨[(0, false), (1, false), (2, false), (3, false), (4, false), (5, false), (6, false), (7, false), (8, false), (9, false), (10, false), (11, false), (12, false), (13, false), (14, false), (15, false), (16, false), (17, false), (18, false), (19, false), (20, true), (21, true), (22, true), (23, false), (24, false), (25, false), (26, false), (27, false), (28, false), (29, false), (30, false), (31, false), (32, false), (33, false), (34, false), (35, false), (36, false), (37, false), (38, false), (39, false), (40, false), (41, false), (42, false), (43, false)], [1, 1, 1, 1, 1, 1, 1, 1, 1, 1, 1, 1, 1, 1, 1, 1, 1, 1, 1, 1, 3, 1, 1, 1, 1, 1, 1, 1, 1, 1, 1, 1, 1, 1, 1, 1, 1, 1, 1, 1, 1, 1], [], []⟩
  | 14, 5 => some ⟨[(0, true), (1, true), (2, true), (3, true), (4, true), (5, true), (6, true), (7, true), (8, false), (9, false)], [8, 1, 1], [], []⟩
  | 15, 3 => some ⟨[(0, true), (1, true), (2, true), (3, true), (4, true), (5, true), (6, true), (7, true), (8, true), (9, true), (10, true), (11, true), (12, false), (13, false)], [12, 1, 1], [], []⟩
  | 16, 4 => some ⟨[(0, true), (1, true), (2, true), (3, true), (4, true), (5, true), (6, true), (7, true), (8, true), (9, true), (10, true), (11, true), (12, true), (13, false), (14, false)], [13, 1, 1], [], []⟩
  | 17, 3 => some ⟨[(0, true), (1, true), (2, true), (3, true), (4, true), (5, true), (6, true), (7, true), (8, true), (9, true), (10, true), (11, true), (12, true), (13, true), (14, true), (15, false), (16, false)], [15, 1, 1], [], []⟩
  | 19, 4 => some ⟨[(0, true), (1, true), (2, true), (3, true), (4, true), (5, true), (6, true), (7, true), (8, true), (9, true), (10, true), (11, true), (12, true), (13, true), (14, false)], [14, 1], [], []⟩
  | 22, 12 => some ⟨[(0, true), (1, true), (2, true), (3, true), (4, false), (5, true), (6, true), (7, false), (8, false)], [4, 1, 2, 1, 1], [], []⟩
  | 23, 9 => some ⟨[(0, true), (1, true), (2, true), (3, true), (4, false), (5, true), (6, true), (7, false), (8, false)], [4, 1, 2, 1, 1], [], []⟩
  | 25, 16 => some ⟨[(0, false), (1, false), (2, false), (3, true), (4, true), (5, true), (6, true), (7, true), (8, true), (9, false), (10, false)], [1, 1, 1, 6, 1, 1], [], []⟩
  | 26, 12 => some ⟨[(0, true), (1, true), (2, true), (3, true), (4, true), (5, true), (6, true), (7, true), (8, true), (9, true), (10, true), (11, true), (12, true), (13, true), (14, true), (15, true), (16, true), (17, true), (18, true), (19, true), (20, true), (21, false)], [21, 1], [], []⟩
  | 27, 6 => some ⟨[(0, true), (1, true), (2, true), (3, true), (4, true), (5, true), (6, true), (7, true), (8, false)], [8, 1], [], []⟩
  | 30, 2 => some ⟨[(0, true), (1, true), (2, true), (3, true), (4, true), (5, true), (6, true), (7, true), (8, true), (9, true), (10, true), (11, false), (12, false), (13, false)], [11, 1, 1, 1], [], []⟩
  | 31, 4 => some ⟨[(0, true), (1, true), (2, true), (3, true), (4, false)], [4, 1], [], []⟩
  | 38, 5 => some ⟨[(0, true), (1, true), (2, true), (3, true), (4, true), (5, true), (6, true), (7, true), (8, false), (9, false), (10, false)], [8, 1, 1, 1], [], []⟩
  | 64, 1 => some ⟨[(0, true), (1, true), (2, true), (3, true), (4, true), (5, true), (6, true), (7, true), (8, true), (9, false), (10, false), (11, true), (12, true), (13, true), (14, false)], [9, 1, 1, 3, 1], [], []⟩
  | 66, 3 => some ⟨[(0, false), (1, false), (2, false), (3, false), (4, true), (5, true), (6, true), (7, true), (8, false), (9, false), (10, false), (11, false), (12, true), (13, true), (14, true), (15, true), (16, false), (17, false), (18, false)], [1, 1, 1, 1, 4, 1, 1, 1, 1, 4, 1, 1, 1], [], []⟩
  | 68, 6 => some ⟨[(0, true), (1, true), (2, true), (3, true), (4, true), (5, true), (6, true), (7, true), (8, false)], [8, 1], [], []⟩
  | 78, 7 => some ⟨[(0, true), (1, true), (2, true), (3, true), (4, true), (5, true), (6, true), (7, true), (8, false), (9, false), (10, false)], [8, 1, 1, 1], [], []⟩
  | 79, 3 => some ⟨[(0, true), (1, true), (2, true), (3, true), (4, true), (5, true), (6, true), (7, true), (8, true), (9, true), (10, true), (11, true), (12, true), (13, true), (14, true), (15, true), (16, true), (17, true), (18, true), (19, true), (20, true), (21, true), (22, true), (23, true), (24, true), (25, true), (26, true), (27, true), (28, true), (29, true), (30, false), (31, false), (32, false)], [30, 1, 1, 1], [], []⟩
  | 88, 1 => some ⟨[(0, true), (1, true), (2, true), (3, true), (4, true), (5, true), (6, true), (7, false), (8, false)], [7, 1, 1], [], []⟩
  | 89, 6 => some ⟨[(0, true), (1, true), (2, true), (3, true), (4, true), (5, true), (6, true), (7, true), (8, false)], [8, 1], [], []⟩
  | 91, 7 => some ⟨[(0, true), (1, true), (2, true), (3, true), (4, true), (5, true), (6, true), (7, true), (8, false), (9, false)], [8, 1, 1], [], []⟩
  | 96, 3 => some ⟨[(0, true), (1, true), (2, true), (3, true), (4, true), (5, true), (6, true), (7, true), (8, true), (9, true), (10, true), (11, true), (12, false)], [12, 1], [], []⟩
  | 98, 1 => some ⟨[(0, true), (1, true), (2, true), (3, true), (4, true), (5, true), (6, true), (7, true), (8, true), (9, true), (10, false), (11, false)], [10, 1, 1], [], []⟩
  | 111, 6 => some ⟨[(0, true), (1, true), (2, true), (3, true), (4, true), (5, true), (6, true), (7, true), (8, false)], [8, 1], [], []⟩
  | 118, 9 => some ⟨[(0, true), (1, true), (2, true), (3, true), (4, true), (5, true), (6, true), (7, true), (8, true), (9, true), (10, true), (11, true), (12, true), (13, true), (14, true), (15, false)], [15, 1], [], []⟩
  | 119, 3 => some ⟨[(0, true), (1, true), (2, true), (3, true), (4, true), (5, true), (6, true), (7, true), (8, true), (9, true), (10, true), (11, true), (12, true), (13, true), (14, true), (15, true), (16, true), (17, false), (18, false), (19, false), (20, false)], [17, 1, 1, 1, 1], [], []⟩
  | 123, 14 => some ⟨[(0, true), (1, true), (2, true), (3, true), (4, true), (5, true), (6, true), (7, true), (8, true), (9, true), (10, true), (11, true), (12, true), (13, true), (14, true), (15, true), (16, true), (17, true), (18, true), (19, true), (20, true), (21, true), (22, true), (23, true), (24, true), (25, true), (26, true), (27, false), (28, false), (29, true), (30, true), (31, true), (32, false)], [27, 1, 1, 3, 1], [], []⟩
  | 123, 15 => some ⟨[(0, true), (1, true), (2, true), (3, true), (4, true), (5, true), (6, true), (7, true), (8, true), (9, false), (10, false)], [9, 1, 1], [], []⟩
  | 123, 16 => some ⟨[(0, true), (1, true), (2, true), (3, true), (4, true), (5, true), (6, true), (7, true), (8, false), (9, false)], [8, 1, 1], [], []⟩
  | 123, 17 => some ⟨[(0, true), (1, true), (2, true), (3, true), (4, true), (5, true), (6, true), (7, true), (8, false), (9, false)], [8, 1, 1], [], []⟩
  | 136, 7 => some ⟨[(0, true), (1, true), (2, true), (3, true), (4, true), (5, true), (6, true), (7, true), (8, true), (9, true), (10, true), (11, true), (12, true), (13, false), (14, false)], [13, 1, 1], [], []⟩
  | 136, 8 => some ⟨[(0, true), (1, true), (2, true), (3, true), (4, true), (5, true), (6, true), (7, true), (8, true), (9, true), (10, true), (11, true), (12, true), (13, false), (14, false)], [13, 1, 1], [], []⟩
  | 136, 9 => some ⟨[(0, true), (1, true), (2, true), (3, true), (4, true), (5, true), (6, true), (7, true), (8, true), (9, true), (10, true), (11, true), (12, true), (13, false), (14, false)], [13, 1, 1], [], []⟩
  | 136, 10 => some ⟨[(0, true), (1, true), (2, true), (3, true), (4, true), (5, true), (6, true), (7, true), (8, true), (9, true), (10, true), (11, true), (12, true), (13, false), (14, false)], [13, 1, 1], [], []⟩
  | 136, 17 => some ⟨[(0, true), (1, true), (2, true), (3, true), (4, true), (5, true), (6, true), (7, true), (8, true), (9, true), (10, true), (11, true), (12, true), (13, false), (14, false)], [13, 1, 1], [], []⟩
  | 136, 18 => some ⟨[(0, true), (1, true), (2, true), (3, true), (4, true), (5, true), (6, true), (7, true), (8, true), (9, true), (10, true), (11, true), (12, true), (13, false), (14, false)], [13, 1, 1], [], []⟩
  | 136, 23 => some ⟨[(0, true), (1, true), (2, true), (3, true), (4, true), (5, true), (6, true), (7, true), (8, true), (9, true), (10, true), (11, true), (12, true), (13, false), (14, false)], [13, 1, 1], [], []⟩
  | 139, 0 => some ⟨[(0, true), (1, true), (2, true), (3, true), (4, true), (5, true), (6, true), (7, true), (8, true), (9, true), (10, true), (11, true), (12, true), (13, true), (14, false), (15, false)], [14, 1, 1], [], []⟩
  | 144, 1 => some ⟨[(0, true), (1, true), (2, true), (3, true), (4, false), (5, false), (6, false)], [4, 1, 1, 1], [], []⟩
  | 145, 1 => some ⟨[(0, true), (1, true), (2, true), (3, true), (4, false), (5, false), (6, false)], [4, 1, 1, 1], [], []⟩
  | 159, 3 => some ⟨[(0, true), (1, true), (2, true), (3, true), (4, true), (5, true), (6, true), (7, true), (8, false), (9, false), (10, false)], [8, 1, 1, 1], [], []⟩
  | 182, 3 => some ⟨[(0, true), (1, true), (2, true), (3, true), (4, true), (5, true), (6, true), (7, true), (8, true), (9, false), (10, false), (11, false), (12, false)], [9, 1, 1, 1, 1], [], []⟩
  | 199, 17 => some ⟨[(0, false), (1, false), (2, false), (3, true), (4, true), (5, true), (6, true), (7, true), (8, true), (9, true), (10, true), (11, true), (12, false), (13, false), (14, false)], [1, 1, 1, 9, 1, 1, 1], [], []⟩
  | 202, 4 => some ⟨[(0, true), (1, true), (2, false), (3, false), (4, true), (5, true), (6, true), (7, true), (8, true), (9, true), (10, true), (11, true), (12, true), (13, false), (14, false)], [2, 1, 1, 9, 1, 1], [], []⟩
  | 202, 6 => some ⟨[(0, true), (1, true), (2, true), (3, true), (4, true), (5, true), (6, true), (7, true), (8, true), (9, true), (10, true), (11, true), (12, true), (13, true), (14, true), (15, true), (16, false), (17, false)], [16, 1, 1], [], []⟩
  | 203, 10 => some ⟨[(0, true), (1, true), (2, true), (3, true), (4, true), (5, true), (6, true), (7, true), (8, true), (9, true), (10, true), (11, true), (12, true), (13, true), (14, true), (15, true), (16, true), (17, true), (18, false), (19, false)], [18, 1, 1], [], []⟩
  | 204, 10 => some ⟨[(0, true), (1, true), (2, true), (3, true), (4, true), (5, true), (6, true), (7, true), (8, true), (9, true), (10, true), (11, true), (12, true), (13, true), (14, true), (15, true), (16, true), (17, true), (18, false), (19, false)], [18, 1, 1], [], []⟩
  | 206, 3 => some ⟨[(0, true), (1, true), (2, true), (3, true), (4, true), (5, true), (6, true), (7, true), (8, true), (9, true), (10, true), (11, true), (12, true), (13, true), (14, false), (15, false)], [14, 1, 1], [], []⟩
  | 207, 5 => some ⟨[(0, true), (1, true), (2, false), (3, false), (4, true), (5, true), (6, true), (7, true), (8, true), (9, true), (10, true), (11, true), (12, true), (13, false), (14, false), (15, false)], [2, 1, 1, 9, 1, 1, 1], [], []⟩
  | 207, 11 => some ⟨[(0, true), (1, true), (2, true), (3, true), (4, true), (5, true), (6, true), (7, true), (8, true), (9, true), (10, true), (11, true), (12, true), (13, true), (14, true), (15, true), (16, false), (17, false)], [16, 1, 1], [], []⟩
  | 207, 16 => some ⟨[(0, true), (1, true), (2, true), (3, true), (4, true), (5, true), (6, true), (7, true), (8, true), (9, false), (10, false)], [9, 1, 1], [], []⟩
  | 207, 17 => some ⟨[(0, true), (1, true), (2, true), (3, true), (4, true), (5, true), (6, true), (7, true), (8, true), (9, true), (10, true), (11, true), (12, true), (13, true), (14, true), (15, true), (16, false), (17, false)], [16, 1, 1], [], []⟩
  | 207, 22 => some ⟨[(0, true), (1, true), (2, true), (3, true), (4, true), (5, true), (6, true), (7, true), (8, true), (9, false), (10, false)], [9, 1, 1], [], []⟩
  | 207, 23 => some ⟨[(0, true), (1, true), (2, true), (3, true), (4, true), (5, true), (6, true), (7, true), (8, true), (9, true), (10, true), (11, true), (12, true), (13, true), (14, true), (15, true), (16, false), (17, false)], [16, 1, 1], [], []⟩
  | 209, 1 => some ⟨[(0, true), (1, true), (2, true), (3, true), (4, true), (5, true), (6, true), (7, true), (8, true), (9, true), (10, true), (11, true), (12, true), (13, true), (14, false), (15, false)], [14, 1, 1], [], []⟩
  | 209, 3 => some ⟨[(0, true), (1, true), (2, false), (3, false), (4, true), (5, true), (6, true), (7, true), (8, true), (9, true), (10, true), (11, true), (12, false), (13, false), (14, false)], [2, 1, 1, 8, 1, 1, 1], [], []⟩
  | 209, 5 => some ⟨[(0, true), (1, true), (2, false), (3, false), (4, true), (5, true), (6, true), (7, true), (8, true), (9, true), (10, true), (11, true), (12, false), (13, false)], [2, 1, 1, 8, 1, 1], [], []⟩
  | 209, 8 => some ⟨[(0, true), (1, true), (2, true), (3, true), (4, true), (5, true), (6, true), (7, true), (8, true), (9, true), (10, true), (11, true), (12, true), (13, true), (14, false), (15, false)], [14, 1, 1], [], []⟩
  | 210, 1 => some ⟨[(0, true), (1, true), (2, true), (3, true), (4, true), (5, true), (6, true), (7, true), (8, true), (9, true), (10, true), (11, true), (12, true), (13, true), (14, false), (15, false)], [14, 1, 1], [], []⟩
  | 210, 3 => some ⟨[(0, true), (1, true), (2, false), (3, false), (4, true), (5, true), (6, true), (7, true), (8, true), (9, true), (10, true), (11, true), (12, false), (13, false)], [2, 1, 1, 8, 1, 1], [], []⟩
  | 210, 5 => some ⟨[(0, true), (1, true), (2, false), (3, false), (4, true), (5, true), (6, true), (7, true), (8, true), (9, true), (10, true), (11, true), (12, false), (13, false), (14, false)], [2, 1, 1, 8, 1, 1, 1], [], []⟩
  | 210, 8 => some ⟨[(0, true), (1, true), (2, true), (3, true), (4, true), (5, true), (6, true), (7, true), (8, true), (9, true), (10, true), (11, true), (12, true), (13, true), (14, false), (15, false)], [14, 1, 1], [], []⟩
  | 210, 10 => some ⟨[(0, true), (1, true), (2, true), (3, true), (4, true), (5, true), (6, true), (7, true), (8, true), (9, true), (10, true), (11, true), (12, true), (13, true), (14, false), (15, false)], [14, 1, 1], [], []⟩
  | 210, 13 => some ⟨[(0, true), (1, true), (2, false), (3, false), (4, true), (5, true), (6, true), (7, true), (8, true), (9, true), (10, true), (11, true), (12, false), (13, false)], [2, 1, 1, 8, 1, 1], [], []⟩
  | 210, 15 => some ⟨[(0, true), (1, true), (2, false), (3, false), (4, true), (5, true), (6, true), (7, true), (8, true), (9, true), (10, true), (11, true), (12, false), (13, false), (14, false)], [2, 1, 1, 8, 1, 1, 1], [], []⟩
  | 210, 18 => some ⟨[(0, true), (1, true), (2, true), (3, true), (4, true), (5, true), (6, true), (7, true), (8, true), (9, true), (10, true), (11, true), (12, true), (13, true), (14, false), (15, false)], [14, 1, 1], [], []⟩
  | 210, 21 => some ⟨[(0, true), (1, true), (2, true), (3, true), (4, true), (5, true), (6, true), (7, true), (8, true), (9, true), (10, true), (11, true), (12, true), (13, true), (14, false), (15, false)], [14, 1, 1], [], []⟩
  | 212, 3 => some ⟨[(0, true), (1, true), (2, true), (3, false), (4, false), (5, true), (6, true), (7, true), (8, true), (9, true), (10, true), (11, true), (12, true), (13, true), (14, true), (15, true), (16, true), (17, true), (18, false), (19, false)], [3, 1, 1, 13, 1, 1], [], []⟩
  | 212, 5 => some ⟨[(0, true), (1, true), (2, true), (3, true), (4, true), (5, true), (6, true), (7, true), (8, true), (9, true), (10, true), (11, true), (12, false), (13, false)], [12, 1, 1], [], []⟩
  | 212, 6 => some ⟨[(0, true), (1, true), (2, true), (3, true), (4, true), (5, true), (6, true), (7, true), (8, true), (9, true), (10, true), (11, true), (12, true), (13, true), (14, true), (15, true), (16, true), (17, true), (18, true), (19, true), (20, true), (21, true), (22, false), (23, false)], [22, 1, 1], [], []⟩
  | 214, 1 => some ⟨[(0, true), (1, true), (2, true), (3, true), (4, true), (5, true), (6, true), (7, false), (8, false), (9, false)], [7, 1, 1, 1], [], []⟩
  | 214, 2 => some ⟨[(0, true), (1, true), (2, true), (3, true), (4, true), (5, true), (6, true), (7, false), (8, false), (9, false)], [7, 1, 1, 1], [], []⟩
  | 214, 3 => some ⟨[(0, true), (1, true), (2, true), (3, true), (4, true), (5, true), (6, true), (7, false), (8, false), (9, false)], [7, 1, 1, 1], [], []⟩
  | 218, 1 => some ⟨[(0, true), (1, true), (2, true), (3, true), (4, true), (5, true), (6, true), (7, true), (8, false)], [8, 1], [], []⟩
  | _, _ => none

def okL : List Nat := [3, 4, 5, 6, 7, 8, 9, 10, 11, 12, 13, 14, 15, 16, 17, 18, 19, 20, 21, 22, 23, 24, 25, 26, 27, 28, 29, 30, 31, 32, 33, 34, 35, 36, 37, 38, 39, 40, 41, 42, 43, 44, 45, 46, 47, 48, 49, 50, 51, 52, 53, 54, 55, 56, 57, 58, 59, 60, 61, 62, 63, 64, 65, 66, 67, 68, 69, 70, 71, 72, 73, 74, 75, 76, 77, 78, 79, 80, 81, 82, 83, 84, 85, 86, 87, 88, 89, 90, 91, 92, 93, 94, 95, 96, 97, 98, 99, 100, 101, 102, 103, 104, 105, 106, 107, 108, 109, 110, 111, 112, 113, 114, 115, 116, 117, 118, 119, 120, 121, 122, 123, 124, 125, 126, 127, 128, 129, 130, 131, 132, 133, 134, 135, 136, 137, 138, 139, 140, 141, 142, 143, 144, 145, 146, 147, 148, 149, 150, 151, 152, 153, 154, 155, 156, 157, 158, 159, 160, 161, 162, 163, 164, 165, 166, 167, 168, 171, 172, 174, 175, 176, 177, 178, 179, 180, 181, 182, 183, 184, 185, 186, 188, 189, 190, 191, 192, 193, 194, 195, 197, 198, 199, 200, 202, 203, 204, 205, 206, 207, 208, 209, 210, 211, 212, 213, 214, 215, 216, 217, 218, 249]
def wordV (l : List UInt8) : Value := .string ⟨l.toArray⟩
def pow10L : List Int := [1, 10, 100, 1000, 10000, 100000, 1000000, 10000000, 100000000, 1000000000, 10000000000, 100000000000, 1000000000000, 10000000000000, 100000000000000, 1000000000000000, 10000000000000000, 100000000000000000, 1000000000000000000, 10000000000000000000]
/-- The words of the tables; the powers of ten. -/
def tabs : List (Nat × List Value) := [(0, [wordV [115, 116, 97, 110, 100, 97, 114, 100], wordV [122, 101, 114, 111], wordV [115, 101, 101, 100, 101, 100]]), (1, pow10L.map fun n => .int .u64 n), (2, [anyI]), (3, [anyI]), (4, [anyN])]

/-- The bytes of the marker, which are a row until they are a []byte. -/
def isMark (o : Oper) : Bool := match o.op with
  | .buildSlice _ n ps => Nat.beq n 4 && ps.all fun x => isC x.2
  | _ => false
/-- Arrays that become lists when they are answered: frame.Stamp's, sector.Tear's, Bank.Read's, Bank.Durable's. -/
def isRest (o : Oper) : Bool := o.pos == "frame.go:162" || o.pos == "sector.go:135" || o.pos == "sector.go:65" || o.pos == "sector.go:74"
/-- Functions of plain values are replaced, abi.NoEscape (169), bytealg.MakeNoZero (170). -/
def mixEnv (isP : FuncId → Bool) (pf : FuncId → List Value → Option Value) : Env :=
  { isOv := fun f => Nat.beq f 169 || Nat.beq f 170 || isP f, ok := fun f => okL.contains f, draws := plans, rows := fun o => !(Nat.beq o.type 37) || isMark o, rest := isRest,
    ov := fun f args _ σ => bif Nat.beq f 169 then noEscA args σ else bif Nat.beq f 170 then makeNoZeroA 5 args σ else pureOv pf f args σ }

theorem zeros : zerosB Tryz.prog = true := by kernel_rfl
theorem zeroOk : ZeroOk Tryz.prog := zeroOk_of zeros
theorem mixed : Tryz.prog.follows .mixedOrders = true := Checked.mixed Tryz.checked

def fnB (P : Program) (G : Nat) (E : Env) (l : List Nat) : Bool := l.all fun f => match P.funcs[f]? with
  | some fn => (match fn.body with
    | some c => codeB G E f c && !(fn.name == "runtime.NumGoroutine")
    | none => true)
  | none => true
set_option maxRecDepth 100000 in
theorem fnOk_of {E : Env} (hE : E.ok = fun f => okL.contains f) (h : fnB Tryz.prog 9 E okL = true) : FnOk Tryz.prog 9 E := by
  intro f fn c hok hfn hb
  rw [hE] at hok
  have hm : f ∈ okL := List.contains_iff_mem.1 hok
  have h := List.all_eq_true.1 h f hm
  rw [hfn] at h
  dsimp only at h
  rw [hb] at h
  simp only [Bool.and_eq_true, Bool.not_eq_true'] at h
  exact h

def env1 : Env := mixEnv (fun _ => false) (fun _ _ => none)
set_option maxRecDepth 100000 in
theorem fns1 : fnB Tryz.prog 9 env1 okL = true := by kernel_rfl

end Go.Proofs.YtcjjlajpbakaoaaGreatDoor
