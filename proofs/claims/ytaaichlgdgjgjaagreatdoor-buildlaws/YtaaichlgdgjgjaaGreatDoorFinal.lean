/- Whatever is handed to it, in whatever memory, on every schedule, BuildLaws returns true. No condition. -/
import Derived.Test.YtaaichlgdgjgjaaGreatDoorPart3
import Derived.Test.YtaaichlgdgjgjaaGreatDoorPart2
import Derived.Test.YtaaichlgdgjgjaaGreatDoorPart6
import Derived.Shelf.SortM.Plain
import Derived.Shelf.SortM.SortNone
import Derived.Test.YtaaichlgdgjgjaaGreatDoorProg
import Derived.OpenShut
import Derived.MakeChecks
import Derived.FnData
import Derived.ChangeSame
import Derived.Test.YtaaichlgdgjgjaaGreatDoorRows
import Derived.ProofKit
import Derived.LaidLaws
import Derived.LaidHandle
import Derived.ChangeVars
import Derived.Test.YtaaichlgdgjgjaaGreatDoorCards
import Derived.Test.YtaaichlgdgjgjaaGreatDoorTie
import Derived.WalkKit
import Derived.Carry
import Derived.SevenTiedAt
set_option linter.unusedVariables false
set_option linter.unusedSimpArgs false
set_option maxRecDepth 100000
open List (getElem?_map mem_append_left mem_append_right mem_cons)
open Bool (and_eq_true not_eq_false')
section
namespace Go.Proofs.YtaaichlgdgjgjaaGreatDoor
open Go Go.Ab Go.Num
noncomputable def aai:FD:=dq Tryz.f10 []
theorem Vb(mv x0 x1:LV)(P:OA)(O S:Nat)(R:OA)(N T:Nat)(h:ae)(Q:VH)(hx:xN (fu SS.P 29 (.agg ⟨mv⟩)) h λ_ g2=>xN (fu SS.P 29 (.agg ⟨x0⟩)) g2 λ_ g4=>xN (fu SS.P 29 (.agg ⟨x1⟩)) g4 λ_ g6=>lA 29 g6 (pA (h.next)) λc7=>FW SS 24 [(.agg ⟨c7⟩)] g6 λv8 h9=>yB v8 λo1=>au o1 (FW SS 12 [] h9 λb c=>yB b λa=>Q (.bool a) c) (lA 29 h9 (pA (g2.next)) λo0=>FW SS 24 [(.agg ⟨o0⟩)] h9 λn8 n9=>yB n8 λn7=>au n7 (FW SS 12 [] n9 λb c=>yB b λa=>Q (.bool a) c) (lA 29 n9 (pA (g4.next)) λn6=>FW SS 24 [(.agg ⟨n6⟩)] n9 λn4 n5=>yB n4 λn3=>au n3 (FW SS 12 [] n5 λb c=>yB b λa=>Q (.bool a) c) (FW SS 11 [(.slice P O S),(.slice R N T)] n5 λn1 n2=>yB n1 λn0=>au (!n0) (FW SS 12 [] n2 λb c=>yB b λa=>Q (.bool a) c) (au (decide ((IntKind.wrap .i64 ((O:Int)+(N:Int)):Int)>4)) (FW SS 12 [] n2 λb c=>yB b λa=>Q (.bool a) c) (lA 29 n2 (pA (h.next)) λm9=>FW SS 26 [(.agg ⟨m9⟩)] n2 λm7 m8=>yB m7 λm6=>au (!m6) (FW SS 12 [] m8 λb c=>yB b λa=>Q (.bool a) c) (lA 29 m8 (pA (g2.next)) λm5=>FW SS 26 [(.agg ⟨m5⟩)] m8 λm3 m4=>yB m3 λm2=>au (!m2) (FW SS 12 [] m4 λb c=>yB b λa=>Q (.bool a) c) (lA 29 m4 (pA (g4.next)) λm1=>FW SS 26 [(.agg ⟨m1⟩)] m4 λl9 m0=>yB l9 λl8=>au (!l8) (FW SS 12 [] m0 λb c=>yB b λa=>Q (.bool a) c) (fP 29 (pA (h.next)) 0 λl7=>lI m0 l7 λl6=>fP 29 (pA (g2.next)) 0 λl5=>lI m0 l5 λl4=>au (((l6:Int) !=l4)) (FW SS 12 [] m0 λb c=>yB b λa=>Q (.bool a) c) (fP 29 (pA (h.next)) 0 λl3=>lI m0 l3 λl2=>fP 29 (pA (g4.next)) 0 λl1=>lI m0 l1 λl0=>au (((l2:Int) !=l0)) (FW SS 12 [] m0 λb c=>yB b λa=>Q (.bool a) c) (lA 29 m0 (pA (h.next)) λk9=>lA 29 m0 (pA (g2.next)) λk8=>FW SS 25 [(.agg ⟨k9⟩),(.agg ⟨k8⟩)] m0 λk6 k7=>∃k5:LV,∃k4:Int,k6=(.tuple ⟨[(.agg ⟨k5⟩),(.int .i64 k4)]⟩)/\xN (av SS.P 29) k7 λ_ k3=>xU (ah SS.P 29 (pA (k7.next)) (.agg ⟨k5⟩) k3) k3 λ_ k2=>lA 29 k2 (pA (g2.next)) λk1=>lA 29 k2 (pA (h.next)) λk0=>FW SS 25 [(.agg ⟨k1⟩),(.agg ⟨k0⟩)] k2 λj8 j9=>∃j7:LV,∃j6:Int,j8=(.tuple ⟨[(.agg ⟨j7⟩),(.int .i64 j6)]⟩)/\xN (av SS.P 29) j9 λ_ j5=>xU (ah SS.P 29 (pA (j9.next)) (.agg ⟨j7⟩) j5) j5 λ_ j4=>lA 29 j4 (pA (k7.next)) λj3=>lA 29 j4 (pA (j9.next)) λj2=>FW SS 38 [(.agg ⟨j3⟩),(.int .i64 k4),(.agg ⟨j2⟩),(.int .i64 j6),(.slice P O S),(.slice R N T)] j4 λj0 j1=>yB j0 λi9=>au (!i9) (Q (.bool false) j1) (au (((k4:Int)==0)) (lA 29 j1 (pA (k7.next)) λi8=>lA 29 j1 (pA (g4.next)) λi7=>FW SS 31 [(.agg ⟨i8⟩),(.agg ⟨i7⟩)] j1 λi5 i6=>∃i4:LV,∃i3:Int,i5=(.tuple ⟨[(.agg ⟨i4⟩),(.int .i64 i3)]⟩)/\xN (av SS.P 29) i6 λ_ i2=>xU (ah SS.P 29 (pA (i6.next)) (.agg ⟨i4⟩) i2) i2 λ_ i1=>lA 29 i1 (pA (h.next)) λi0=>lA 29 i1 (pA (g4.next)) λh9=>FW SS 31 [(.agg ⟨i0⟩),(.agg ⟨h9⟩)] i1 λh7 h8=>∃h6:LV,∃h5:Int,h7=(.tuple ⟨[(.agg ⟨h6⟩),(.int .i64 h5)]⟩)/\xN (av SS.P 29) h8 λ_ h4=>xU (ah SS.P 29 (pA (h8.next)) (.agg ⟨h6⟩) h4) h4 λ_ h3=>lA 29 h3 (pA (g2.next)) λh2=>lA 29 h3 (pA (g4.next)) λh1=>FW SS 31 [(.agg ⟨h2⟩),(.agg ⟨h1⟩)] h3 λg9 h0=>∃g8:LV,∃g7:Int,g9=(.tuple ⟨[(.agg ⟨g8⟩),(.int .i64 g7)]⟩)/\xN (av SS.P 29) h0 λ_ g6=>xU (ah SS.P 29 (pA (h0.next)) (.agg ⟨g8⟩) g6) g6 λ_ W=>au (((h5:Int)==0)) (au (((g7:Int)==0)) (lA 29 W (pA (h8.next)) λg4=>lA 29 W (pA (h0.next)) λg3=>FW SS 25 [(.agg ⟨g4⟩),(.agg ⟨g3⟩)] W λg1 g2=>∃g0:LV,∃f9:Int,g1=(.tuple ⟨[(.agg ⟨g0⟩),(.int .i64 f9)]⟩)/\xN (av SS.P 29) g2 λ_ f8=>xU (ah SS.P 29 (pA (g2.next)) (.agg ⟨g0⟩) f8) f8 λ_ f7=>lA 29 f7 (pA (i6.next)) λf6=>lA 29 f7 (pA (g2.next)) λf5=>FW SS 38 [(.agg ⟨f6⟩),(.int .i64 i3),(.agg ⟨f5⟩),(.int .i64 f9),(.slice P O S),(.slice R N T)] f7 λf3 f4=>yB f3 λf2=>au (!f2) (Q (.bool false) f4) (fP 29 (pA (h.next)) 0 λf1=>lI (room f4 12) f1 λU=>fP 29 (pA (h.next)) 0 λe9=>lI (room f4 12) e9 λe8=>FW SS 22 [(.int .i64 e8)] (room f4 12) λe6 e7=>yS e6 λe5=>FW SS 13 [(.int .i64 U),nA,nA,(strOf e5)] e7 λe3 e4=>∃e2:LV,∃e1:Int,e3=(.tuple ⟨[(.agg ⟨e2⟩),(.int .i64 e1)]⟩)/\zN (av SS.P 29) λe0=>xU (ah SS.P 29 (pA (f4.next+9)) (.agg ⟨e2⟩) (cd e4 f4.next [(9,e0)])) (cd e4 f4.next [(9,e0)]) λ_ d9=>(aj SS.P 3 e7 (.pointer (some f1))=some (.int .i64 U)/\dV 4 (.int .i64 U) (.int .i64 U)=true)/\lA 29 d9 (pA (h.next)) λd8=>FW SS 33 [(.agg ⟨d8⟩)] d9 λd6 V=>∃d5:LV,∃d4:Int,d6=(.tuple ⟨[(.agg ⟨d5⟩),(.int .i64 d4)]⟩)/\xN (av SS.P 29) V λ_ d3=>xU (ah SS.P 29 (pA (V.next)) (.agg ⟨d5⟩) d3) d3 λ_ H=>au (((d4:Int)==0)) (lA 29 H (pA (h.next)) λd1=>lA 29 H (pA (V.next)) λd0=>FW SS 31 [(.agg ⟨d1⟩),(.agg ⟨d0⟩)] H λc8 X=>∃c7:LV,∃c6:Int,c8=(.tuple ⟨[(.agg ⟨c7⟩),(.int .i64 c6)]⟩)/\xN (av SS.P 29) X λ_ c5=>xU (ah SS.P 29 (pA (X.next)) (.agg ⟨c7⟩) c5) c5 λ_ J=>au (((c6:Int)==0)) (lA 29 J (pA (f4.next+9)) λc3=>lA 29 J (pA (X.next)) λc2=>FW SS 25 [(.agg ⟨c3⟩),(.agg ⟨c2⟩)] J λc0 c1=>∃b9:LV,∃b8:Int,c0=(.tuple ⟨[(.agg ⟨b9⟩),(.int .i64 b8)]⟩)/\xN (av SS.P 29) c1 λ_ b7=>xU (ah SS.P 29 (pA (c1.next)) (.agg ⟨b9⟩) b7) b7 λ_ Z=>lA 29 Z (pA (V.next)) λb5=>lA 29 Z (pA (c1.next)) λb4=>FW SS 38 [(.agg ⟨b5⟩),(.int .i64 d4),(.agg ⟨b4⟩),(.int .i64 b8),(.slice P O S),(.slice R N T)] Z λb2 Y=>yB b2 λb1=>au (!b1) (Q (.bool false) Y) (lA 29 Y (pA (h.next)) λK=>FW SS 35 [(.agg ⟨K⟩),(.int .i64 1),(.int .i64 1)] Y λI A=>∃F:LV,∃D:Int,I=(.tuple ⟨[(.agg ⟨F⟩),(.int .i64 D)]⟩)/\xN (av SS.P 29) A λ_ G=>xU (ah SS.P 29 (pA (A.next)) (.agg ⟨F⟩) G) G λ_ E=>lA 29 E (pA (h.next)) λL=>FW SS 35 [(.agg ⟨L⟩),(.int .i64 0),(.int .i64 2)] E λM B=>∃C:LV,∃z:Int,M=(.tuple ⟨[(.agg ⟨C⟩),(.int .i64 z)]⟩)/\xN (av SS.P 29) B λ_ y=>xU (ah SS.P 29 (pA (B.next)) (.agg ⟨C⟩) y) y λ_ x=>lA 29 x (pA (h.next)) λw=>FW SS 35 [(.agg ⟨w⟩),(.int .i64 1),(.int .i64 3)] x λu v=>∃t:LV,∃s:Int,u=(.tuple ⟨[(.agg ⟨t⟩),(.int .i64 s)]⟩)/\xN (av SS.P 29) v λ_ r=>xU (ah SS.P 29 (pA (v.next)) (.agg ⟨t⟩) r) r λ_ q=>au (((D:Int)==0)) (au (((z:Int)==0)) (lA 29 q (pA (A.next)) λp=>lA 29 q (pA (B.next)) λo=>FW SS 31 [(.agg ⟨p⟩),(.agg ⟨o⟩)] q λm n=>∃l:LV,∃k:Int,m=(.tuple ⟨[(.agg ⟨l⟩),(.int .i64 k)]⟩)/\xN (av SS.P 29) n λ_ j=>xU (ah SS.P 29 (pA (n.next)) (.agg ⟨l⟩) j) j λ_ i=>lA 29 i (pA (n.next)) λh=>lA 29 i (pA (v.next)) λg=>FW SS 38 [(.agg ⟨h⟩),(.int .i64 k),(.agg ⟨g⟩),(.int .i64 s),(.slice P O S),(.slice R N T)] i λe f=>yB e λd=>au (!d) (Q (.bool false) f) (FW SS 12 [] f λb c=>yB b λa=>Q (.bool a) c)) (FW SS 12 [] q λb c=>yB b λa=>Q (.bool a) c)) (FW SS 12 [] q λb c=>yB b λa=>Q (.bool a) c))) (lA 29 J (pA (h.next)) λK=>FW SS 35 [(.agg ⟨K⟩),(.int .i64 1),(.int .i64 1)] J λI A=>∃F:LV,∃D:Int,I=(.tuple ⟨[(.agg ⟨F⟩),(.int .i64 D)]⟩)/\xN (av SS.P 29) A λ_ G=>xU (ah SS.P 29 (pA (A.next)) (.agg ⟨F⟩) G) G λ_ E=>lA 29 E (pA (h.next)) λL=>FW SS 35 [(.agg ⟨L⟩),(.int .i64 0),(.int .i64 2)] E λM B=>∃C:LV,∃z:Int,M=(.tuple ⟨[(.agg ⟨C⟩),(.int .i64 z)]⟩)/\xN (av SS.P 29) B λ_ y=>xU (ah SS.P 29 (pA (B.next)) (.agg ⟨C⟩) y) y λ_ x=>lA 29 x (pA (h.next)) λw=>FW SS 35 [(.agg ⟨w⟩),(.int .i64 1),(.int .i64 3)] x λu v=>∃t:LV,∃s:Int,u=(.tuple ⟨[(.agg ⟨t⟩),(.int .i64 s)]⟩)/\xN (av SS.P 29) v λ_ r=>xU (ah SS.P 29 (pA (v.next)) (.agg ⟨t⟩) r) r λ_ q=>au (((D:Int)==0)) (au (((z:Int)==0)) (lA 29 q (pA (A.next)) λp=>lA 29 q (pA (B.next)) λo=>FW SS 31 [(.agg ⟨p⟩),(.agg ⟨o⟩)] q λm n=>∃l:LV,∃k:Int,m=(.tuple ⟨[(.agg ⟨l⟩),(.int .i64 k)]⟩)/\xN (av SS.P 29) n λ_ j=>xU (ah SS.P 29 (pA (n.next)) (.agg ⟨l⟩) j) j λ_ i=>lA 29 i (pA (n.next)) λh=>lA 29 i (pA (v.next)) λg=>FW SS 38 [(.agg ⟨h⟩),(.int .i64 k),(.agg ⟨g⟩),(.int .i64 s),(.slice P O S),(.slice R N T)] i λe f=>yB e λd=>au (!d) (Q (.bool false) f) (FW SS 12 [] f λb c=>yB b λa=>Q (.bool a) c)) (FW SS 12 [] q λb c=>yB b λa=>Q (.bool a) c)) (FW SS 12 [] q λb c=>yB b λa=>Q (.bool a) c))) (lA 29 H (pA (h.next)) λK=>FW SS 35 [(.agg ⟨K⟩),(.int .i64 1),(.int .i64 1)] H λI A=>∃F:LV,∃D:Int,I=(.tuple ⟨[(.agg ⟨F⟩),(.int .i64 D)]⟩)/\xN (av SS.P 29) A λ_ G=>xU (ah SS.P 29 (pA (A.next)) (.agg ⟨F⟩) G) G λ_ E=>lA 29 E (pA (h.next)) λL=>FW SS 35 [(.agg ⟨L⟩),(.int .i64 0),(.int .i64 2)] E λM B=>∃C:LV,∃z:Int,M=(.tuple ⟨[(.agg ⟨C⟩),(.int .i64 z)]⟩)/\xN (av SS.P 29) B λ_ y=>xU (ah SS.P 29 (pA (B.next)) (.agg ⟨C⟩) y) y λ_ x=>lA 29 x (pA (h.next)) λw=>FW SS 35 [(.agg ⟨w⟩),(.int .i64 1),(.int .i64 3)] x λu v=>∃t:LV,∃s:Int,u=(.tuple ⟨[(.agg ⟨t⟩),(.int .i64 s)]⟩)/\xN (av SS.P 29) v λ_ r=>xU (ah SS.P 29 (pA (v.next)) (.agg ⟨t⟩) r) r λ_ q=>au (((D:Int)==0)) (au (((z:Int)==0)) (lA 29 q (pA (A.next)) λp=>lA 29 q (pA (B.next)) λo=>FW SS 31 [(.agg ⟨p⟩),(.agg ⟨o⟩)] q λm n=>∃l:LV,∃k:Int,m=(.tuple ⟨[(.agg ⟨l⟩),(.int .i64 k)]⟩)/\xN (av SS.P 29) n λ_ j=>xU (ah SS.P 29 (pA (n.next)) (.agg ⟨l⟩) j) j λ_ i=>lA 29 i (pA (n.next)) λh=>lA 29 i (pA (v.next)) λg=>FW SS 38 [(.agg ⟨h⟩),(.int .i64 k),(.agg ⟨g⟩),(.int .i64 s),(.slice P O S),(.slice R N T)] i λe f=>yB e λd=>au (!d) (Q (.bool false) f) (FW SS 12 [] f λb c=>yB b λa=>Q (.bool a) c)) (FW SS 12 [] q λb c=>yB b λa=>Q (.bool a) c)) (FW SS 12 [] q λb c=>yB b λa=>Q (.bool a) c)))) (fP 29 (pA (h.next)) 0 λf1=>lI (room W 12) f1 λU=>fP 29 (pA (h.next)) 0 λe9=>lI (room W 12) e9 λe8=>FW SS 22 [(.int .i64 e8)] (room W 12) λe6 e7=>yS e6 λe5=>FW SS 13 [(.int .i64 U),nA,nA,(strOf e5)] e7 λe3 e4=>∃e2:LV,∃e1:Int,e3=(.tuple ⟨[(.agg ⟨e2⟩),(.int .i64 e1)]⟩)/\zN (av SS.P 29) λe0=>xU (ah SS.P 29 (pA (W.next+9)) (.agg ⟨e2⟩) (cd e4 W.next [(9,e0)])) (cd e4 W.next [(9,e0)]) λ_ d9=>(aj SS.P 3 e7 (.pointer (some f1))=some (.int .i64 U)/\dV 4 (.int .i64 U) (.int .i64 U)=true)/\lA 29 d9 (pA (h.next)) λd8=>FW SS 33 [(.agg ⟨d8⟩)] d9 λd6 V=>∃d5:LV,∃d4:Int,d6=(.tuple ⟨[(.agg ⟨d5⟩),(.int .i64 d4)]⟩)/\xN (av SS.P 29) V λ_ d3=>xU (ah SS.P 29 (pA (V.next)) (.agg ⟨d5⟩) d3) d3 λ_ H=>au (((d4:Int)==0)) (lA 29 H (pA (h.next)) λd1=>lA 29 H (pA (V.next)) λd0=>FW SS 31 [(.agg ⟨d1⟩),(.agg ⟨d0⟩)] H λc8 X=>∃c7:LV,∃c6:Int,c8=(.tuple ⟨[(.agg ⟨c7⟩),(.int .i64 c6)]⟩)/\xN (av SS.P 29) X λ_ c5=>xU (ah SS.P 29 (pA (X.next)) (.agg ⟨c7⟩) c5) c5 λ_ J=>au (((c6:Int)==0)) (lA 29 J (pA (W.next+9)) λc3=>lA 29 J (pA (X.next)) λc2=>FW SS 25 [(.agg ⟨c3⟩),(.agg ⟨c2⟩)] J λc0 c1=>∃b9:LV,∃b8:Int,c0=(.tuple ⟨[(.agg ⟨b9⟩),(.int .i64 b8)]⟩)/\xN (av SS.P 29) c1 λ_ b7=>xU (ah SS.P 29 (pA (c1.next)) (.agg ⟨b9⟩) b7) b7 λ_ Z=>lA 29 Z (pA (V.next)) λb5=>lA 29 Z (pA (c1.next)) λb4=>FW SS 38 [(.agg ⟨b5⟩),(.int .i64 d4),(.agg ⟨b4⟩),(.int .i64 b8),(.slice P O S),(.slice R N T)] Z λb2 Y=>yB b2 λb1=>au (!b1) (Q (.bool false) Y) (lA 29 Y (pA (h.next)) λK=>FW SS 35 [(.agg ⟨K⟩),(.int .i64 1),(.int .i64 1)] Y λI A=>∃F:LV,∃D:Int,I=(.tuple ⟨[(.agg ⟨F⟩),(.int .i64 D)]⟩)/\xN (av SS.P 29) A λ_ G=>xU (ah SS.P 29 (pA (A.next)) (.agg ⟨F⟩) G) G λ_ E=>lA 29 E (pA (h.next)) λL=>FW SS 35 [(.agg ⟨L⟩),(.int .i64 0),(.int .i64 2)] E λM B=>∃C:LV,∃z:Int,M=(.tuple ⟨[(.agg ⟨C⟩),(.int .i64 z)]⟩)/\xN (av SS.P 29) B λ_ y=>xU (ah SS.P 29 (pA (B.next)) (.agg ⟨C⟩) y) y λ_ x=>lA 29 x (pA (h.next)) λw=>FW SS 35 [(.agg ⟨w⟩),(.int .i64 1),(.int .i64 3)] x λu v=>∃t:LV,∃s:Int,u=(.tuple ⟨[(.agg ⟨t⟩),(.int .i64 s)]⟩)/\xN (av SS.P 29) v λ_ r=>xU (ah SS.P 29 (pA (v.next)) (.agg ⟨t⟩) r) r λ_ q=>au (((D:Int)==0)) (au (((z:Int)==0)) (lA 29 q (pA (A.next)) λp=>lA 29 q (pA (B.next)) λo=>FW SS 31 [(.agg ⟨p⟩),(.agg ⟨o⟩)] q λm n=>∃l:LV,∃k:Int,m=(.tuple ⟨[(.agg ⟨l⟩),(.int .i64 k)]⟩)/\xN (av SS.P 29) n λ_ j=>xU (ah SS.P 29 (pA (n.next)) (.agg ⟨l⟩) j) j λ_ i=>lA 29 i (pA (n.next)) λh=>lA 29 i (pA (v.next)) λg=>FW SS 38 [(.agg ⟨h⟩),(.int .i64 k),(.agg ⟨g⟩),(.int .i64 s),(.slice P O S),(.slice R N T)] i λe f=>yB e λd=>au (!d) (Q (.bool false) f) (FW SS 12 [] f λb c=>yB b λa=>Q (.bool a) c)) (FW SS 12 [] q λb c=>yB b λa=>Q (.bool a) c)) (FW SS 12 [] q λb c=>yB b λa=>Q (.bool a) c))) (lA 29 J (pA (h.next)) λK=>FW SS 35 [(.agg ⟨K⟩),(.int .i64 1),(.int .i64 1)] J λI A=>∃F:LV,∃D:Int,I=(.tuple ⟨[(.agg ⟨F⟩),(.int .i64 D)]⟩)/\xN (av SS.P 29) A λ_ G=>xU (ah SS.P 29 (pA (A.next)) (.agg ⟨F⟩) G) G λ_ E=>lA 29 E (pA (h.next)) λL=>FW SS 35 [(.agg ⟨L⟩),(.int .i64 0),(.int .i64 2)] E λM B=>∃C:LV,∃z:Int,M=(.tuple ⟨[(.agg ⟨C⟩),(.int .i64 z)]⟩)/\xN (av SS.P 29) B λ_ y=>xU (ah SS.P 29 (pA (B.next)) (.agg ⟨C⟩) y) y λ_ x=>lA 29 x (pA (h.next)) λw=>FW SS 35 [(.agg ⟨w⟩),(.int .i64 1),(.int .i64 3)] x λu v=>∃t:LV,∃s:Int,u=(.tuple ⟨[(.agg ⟨t⟩),(.int .i64 s)]⟩)/\xN (av SS.P 29) v λ_ r=>xU (ah SS.P 29 (pA (v.next)) (.agg ⟨t⟩) r) r λ_ q=>au (((D:Int)==0)) (au (((z:Int)==0)) (lA 29 q (pA (A.next)) λp=>lA 29 q (pA (B.next)) λo=>FW SS 31 [(.agg ⟨p⟩),(.agg ⟨o⟩)] q λm n=>∃l:LV,∃k:Int,m=(.tuple ⟨[(.agg ⟨l⟩),(.int .i64 k)]⟩)/\xN (av SS.P 29) n λ_ j=>xU (ah SS.P 29 (pA (n.next)) (.agg ⟨l⟩) j) j λ_ i=>lA 29 i (pA (n.next)) λh=>lA 29 i (pA (v.next)) λg=>FW SS 38 [(.agg ⟨h⟩),(.int .i64 k),(.agg ⟨g⟩),(.int .i64 s),(.slice P O S),(.slice R N T)] i λe f=>yB e λd=>au (!d) (Q (.bool false) f) (FW SS 12 [] f λb c=>yB b λa=>Q (.bool a) c)) (FW SS 12 [] q λb c=>yB b λa=>Q (.bool a) c)) (FW SS 12 [] q λb c=>yB b λa=>Q (.bool a) c))) (lA 29 H (pA (h.next)) λK=>FW SS 35 [(.agg ⟨K⟩),(.int .i64 1),(.int .i64 1)] H λI A=>∃F:LV,∃D:Int,I=(.tuple ⟨[(.agg ⟨F⟩),(.int .i64 D)]⟩)/\xN (av SS.P 29) A λ_ G=>xU (ah SS.P 29 (pA (A.next)) (.agg ⟨F⟩) G) G λ_ E=>lA 29 E (pA (h.next)) λL=>FW SS 35 [(.agg ⟨L⟩),(.int .i64 0),(.int .i64 2)] E λM B=>∃C:LV,∃z:Int,M=(.tuple ⟨[(.agg ⟨C⟩),(.int .i64 z)]⟩)/\xN (av SS.P 29) B λ_ y=>xU (ah SS.P 29 (pA (B.next)) (.agg ⟨C⟩) y) y λ_ x=>lA 29 x (pA (h.next)) λw=>FW SS 35 [(.agg ⟨w⟩),(.int .i64 1),(.int .i64 3)] x λu v=>∃t:LV,∃s:Int,u=(.tuple ⟨[(.agg ⟨t⟩),(.int .i64 s)]⟩)/\xN (av SS.P 29) v λ_ r=>xU (ah SS.P 29 (pA (v.next)) (.agg ⟨t⟩) r) r λ_ q=>au (((D:Int)==0)) (au (((z:Int)==0)) (lA 29 q (pA (A.next)) λp=>lA 29 q (pA (B.next)) λo=>FW SS 31 [(.agg ⟨p⟩),(.agg ⟨o⟩)] q λm n=>∃l:LV,∃k:Int,m=(.tuple ⟨[(.agg ⟨l⟩),(.int .i64 k)]⟩)/\xN (av SS.P 29) n λ_ j=>xU (ah SS.P 29 (pA (n.next)) (.agg ⟨l⟩) j) j λ_ i=>lA 29 i (pA (n.next)) λh=>lA 29 i (pA (v.next)) λg=>FW SS 38 [(.agg ⟨h⟩),(.int .i64 k),(.agg ⟨g⟩),(.int .i64 s),(.slice P O S),(.slice R N T)] i λe f=>yB e λd=>au (!d) (Q (.bool false) f) (FW SS 12 [] f λb c=>yB b λa=>Q (.bool a) c)) (FW SS 12 [] q λb c=>yB b λa=>Q (.bool a) c)) (FW SS 12 [] q λb c=>yB b λa=>Q (.bool a) c)))) (fP 29 (pA (h.next)) 0 λf1=>lI (room W 12) f1 λU=>fP 29 (pA (h.next)) 0 λe9=>lI (room W 12) e9 λe8=>FW SS 22 [(.int .i64 e8)] (room W 12) λe6 e7=>yS e6 λe5=>FW SS 13 [(.int .i64 U),nA,nA,(strOf e5)] e7 λe3 e4=>∃e2:LV,∃e1:Int,e3=(.tuple ⟨[(.agg ⟨e2⟩),(.int .i64 e1)]⟩)/\zN (av SS.P 29) λe0=>xU (ah SS.P 29 (pA (W.next+9)) (.agg ⟨e2⟩) (cd e4 W.next [(9,e0)])) (cd e4 W.next [(9,e0)]) λ_ d9=>(aj SS.P 3 e7 (.pointer (some f1))=some (.int .i64 U)/\dV 4 (.int .i64 U) (.int .i64 U)=true)/\lA 29 d9 (pA (h.next)) λd8=>FW SS 33 [(.agg ⟨d8⟩)] d9 λd6 V=>∃d5:LV,∃d4:Int,d6=(.tuple ⟨[(.agg ⟨d5⟩),(.int .i64 d4)]⟩)/\xN (av SS.P 29) V λ_ d3=>xU (ah SS.P 29 (pA (V.next)) (.agg ⟨d5⟩) d3) d3 λ_ H=>au (((d4:Int)==0)) (lA 29 H (pA (h.next)) λd1=>lA 29 H (pA (V.next)) λd0=>FW SS 31 [(.agg ⟨d1⟩),(.agg ⟨d0⟩)] H λc8 X=>∃c7:LV,∃c6:Int,c8=(.tuple ⟨[(.agg ⟨c7⟩),(.int .i64 c6)]⟩)/\xN (av SS.P 29) X λ_ c5=>xU (ah SS.P 29 (pA (X.next)) (.agg ⟨c7⟩) c5) c5 λ_ J=>au (((c6:Int)==0)) (lA 29 J (pA (W.next+9)) λc3=>lA 29 J (pA (X.next)) λc2=>FW SS 25 [(.agg ⟨c3⟩),(.agg ⟨c2⟩)] J λc0 c1=>∃b9:LV,∃b8:Int,c0=(.tuple ⟨[(.agg ⟨b9⟩),(.int .i64 b8)]⟩)/\xN (av SS.P 29) c1 λ_ b7=>xU (ah SS.P 29 (pA (c1.next)) (.agg ⟨b9⟩) b7) b7 λ_ Z=>lA 29 Z (pA (V.next)) λb5=>lA 29 Z (pA (c1.next)) λb4=>FW SS 38 [(.agg ⟨b5⟩),(.int .i64 d4),(.agg ⟨b4⟩),(.int .i64 b8),(.slice P O S),(.slice R N T)] Z λb2 Y=>yB b2 λb1=>au (!b1) (Q (.bool false) Y) (lA 29 Y (pA (h.next)) λK=>FW SS 35 [(.agg ⟨K⟩),(.int .i64 1),(.int .i64 1)] Y λI A=>∃F:LV,∃D:Int,I=(.tuple ⟨[(.agg ⟨F⟩),(.int .i64 D)]⟩)/\xN (av SS.P 29) A λ_ G=>xU (ah SS.P 29 (pA (A.next)) (.agg ⟨F⟩) G) G λ_ E=>lA 29 E (pA (h.next)) λL=>FW SS 35 [(.agg ⟨L⟩),(.int .i64 0),(.int .i64 2)] E λM B=>∃C:LV,∃z:Int,M=(.tuple ⟨[(.agg ⟨C⟩),(.int .i64 z)]⟩)/\xN (av SS.P 29) B λ_ y=>xU (ah SS.P 29 (pA (B.next)) (.agg ⟨C⟩) y) y λ_ x=>lA 29 x (pA (h.next)) λw=>FW SS 35 [(.agg ⟨w⟩),(.int .i64 1),(.int .i64 3)] x λu v=>∃t:LV,∃s:Int,u=(.tuple ⟨[(.agg ⟨t⟩),(.int .i64 s)]⟩)/\xN (av SS.P 29) v λ_ r=>xU (ah SS.P 29 (pA (v.next)) (.agg ⟨t⟩) r) r λ_ q=>au (((D:Int)==0)) (au (((z:Int)==0)) (lA 29 q (pA (A.next)) λp=>lA 29 q (pA (B.next)) λo=>FW SS 31 [(.agg ⟨p⟩),(.agg ⟨o⟩)] q λm n=>∃l:LV,∃k:Int,m=(.tuple ⟨[(.agg ⟨l⟩),(.int .i64 k)]⟩)/\xN (av SS.P 29) n λ_ j=>xU (ah SS.P 29 (pA (n.next)) (.agg ⟨l⟩) j) j λ_ i=>lA 29 i (pA (n.next)) λh=>lA 29 i (pA (v.next)) λg=>FW SS 38 [(.agg ⟨h⟩),(.int .i64 k),(.agg ⟨g⟩),(.int .i64 s),(.slice P O S),(.slice R N T)] i λe f=>yB e λd=>au (!d) (Q (.bool false) f) (FW SS 12 [] f λb c=>yB b λa=>Q (.bool a) c)) (FW SS 12 [] q λb c=>yB b λa=>Q (.bool a) c)) (FW SS 12 [] q λb c=>yB b λa=>Q (.bool a) c))) (lA 29 J (pA (h.next)) λK=>FW SS 35 [(.agg ⟨K⟩),(.int .i64 1),(.int .i64 1)] J λI A=>∃F:LV,∃D:Int,I=(.tuple ⟨[(.agg ⟨F⟩),(.int .i64 D)]⟩)/\xN (av SS.P 29) A λ_ G=>xU (ah SS.P 29 (pA (A.next)) (.agg ⟨F⟩) G) G λ_ E=>lA 29 E (pA (h.next)) λL=>FW SS 35 [(.agg ⟨L⟩),(.int .i64 0),(.int .i64 2)] E λM B=>∃C:LV,∃z:Int,M=(.tuple ⟨[(.agg ⟨C⟩),(.int .i64 z)]⟩)/\xN (av SS.P 29) B λ_ y=>xU (ah SS.P 29 (pA (B.next)) (.agg ⟨C⟩) y) y λ_ x=>lA 29 x (pA (h.next)) λw=>FW SS 35 [(.agg ⟨w⟩),(.int .i64 1),(.int .i64 3)] x λu v=>∃t:LV,∃s:Int,u=(.tuple ⟨[(.agg ⟨t⟩),(.int .i64 s)]⟩)/\xN (av SS.P 29) v λ_ r=>xU (ah SS.P 29 (pA (v.next)) (.agg ⟨t⟩) r) r λ_ q=>au (((D:Int)==0)) (au (((z:Int)==0)) (lA 29 q (pA (A.next)) λp=>lA 29 q (pA (B.next)) λo=>FW SS 31 [(.agg ⟨p⟩),(.agg ⟨o⟩)] q λm n=>∃l:LV,∃k:Int,m=(.tuple ⟨[(.agg ⟨l⟩),(.int .i64 k)]⟩)/\xN (av SS.P 29) n λ_ j=>xU (ah SS.P 29 (pA (n.next)) (.agg ⟨l⟩) j) j λ_ i=>lA 29 i (pA (n.next)) λh=>lA 29 i (pA (v.next)) λg=>FW SS 38 [(.agg ⟨h⟩),(.int .i64 k),(.agg ⟨g⟩),(.int .i64 s),(.slice P O S),(.slice R N T)] i λe f=>yB e λd=>au (!d) (Q (.bool false) f) (FW SS 12 [] f λb c=>yB b λa=>Q (.bool a) c)) (FW SS 12 [] q λb c=>yB b λa=>Q (.bool a) c)) (FW SS 12 [] q λb c=>yB b λa=>Q (.bool a) c))) (lA 29 H (pA (h.next)) λK=>FW SS 35 [(.agg ⟨K⟩),(.int .i64 1),(.int .i64 1)] H λI A=>∃F:LV,∃D:Int,I=(.tuple ⟨[(.agg ⟨F⟩),(.int .i64 D)]⟩)/\xN (av SS.P 29) A λ_ G=>xU (ah SS.P 29 (pA (A.next)) (.agg ⟨F⟩) G) G λ_ E=>lA 29 E (pA (h.next)) λL=>FW SS 35 [(.agg ⟨L⟩),(.int .i64 0),(.int .i64 2)] E λM B=>∃C:LV,∃z:Int,M=(.tuple ⟨[(.agg ⟨C⟩),(.int .i64 z)]⟩)/\xN (av SS.P 29) B λ_ y=>xU (ah SS.P 29 (pA (B.next)) (.agg ⟨C⟩) y) y λ_ x=>lA 29 x (pA (h.next)) λw=>FW SS 35 [(.agg ⟨w⟩),(.int .i64 1),(.int .i64 3)] x λu v=>∃t:LV,∃s:Int,u=(.tuple ⟨[(.agg ⟨t⟩),(.int .i64 s)]⟩)/\xN (av SS.P 29) v λ_ r=>xU (ah SS.P 29 (pA (v.next)) (.agg ⟨t⟩) r) r λ_ q=>au (((D:Int)==0)) (au (((z:Int)==0)) (lA 29 q (pA (A.next)) λp=>lA 29 q (pA (B.next)) λo=>FW SS 31 [(.agg ⟨p⟩),(.agg ⟨o⟩)] q λm n=>∃l:LV,∃k:Int,m=(.tuple ⟨[(.agg ⟨l⟩),(.int .i64 k)]⟩)/\xN (av SS.P 29) n λ_ j=>xU (ah SS.P 29 (pA (n.next)) (.agg ⟨l⟩) j) j λ_ i=>lA 29 i (pA (n.next)) λh=>lA 29 i (pA (v.next)) λg=>FW SS 38 [(.agg ⟨h⟩),(.int .i64 k),(.agg ⟨g⟩),(.int .i64 s),(.slice P O S),(.slice R N T)] i λe f=>yB e λd=>au (!d) (Q (.bool false) f) (FW SS 12 [] f λb c=>yB b λa=>Q (.bool a) c)) (FW SS 12 [] q λb c=>yB b λa=>Q (.bool a) c)) (FW SS 12 [] q λb c=>yB b λa=>Q (.bool a) c)))) (fP 29 (pA (h.next)) 0 λf1=>lI (room j1 12) f1 λU=>fP 29 (pA (h.next)) 0 λe9=>lI (room j1 12) e9 λe8=>FW SS 22 [(.int .i64 e8)] (room j1 12) λe6 e7=>yS e6 λe5=>FW SS 13 [(.int .i64 U),nA,nA,(strOf e5)] e7 λe3 e4=>∃e2:LV,∃e1:Int,e3=(.tuple ⟨[(.agg ⟨e2⟩),(.int .i64 e1)]⟩)/\zN (av SS.P 29) λe0=>xU (ah SS.P 29 (pA (j1.next+9)) (.agg ⟨e2⟩) (cd e4 j1.next [(9,e0)])) (cd e4 j1.next [(9,e0)]) λ_ d9=>(aj SS.P 3 e7 (.pointer (some f1))=some (.int .i64 U)/\dV 4 (.int .i64 U) (.int .i64 U)=true)/\lA 29 d9 (pA (h.next)) λd8=>FW SS 33 [(.agg ⟨d8⟩)] d9 λd6 V=>∃d5:LV,∃d4:Int,d6=(.tuple ⟨[(.agg ⟨d5⟩),(.int .i64 d4)]⟩)/\xN (av SS.P 29) V λ_ d3=>xU (ah SS.P 29 (pA (V.next)) (.agg ⟨d5⟩) d3) d3 λ_ H=>au (((d4:Int)==0)) (lA 29 H (pA (h.next)) λd1=>lA 29 H (pA (V.next)) λd0=>FW SS 31 [(.agg ⟨d1⟩),(.agg ⟨d0⟩)] H λc8 X=>∃c7:LV,∃c6:Int,c8=(.tuple ⟨[(.agg ⟨c7⟩),(.int .i64 c6)]⟩)/\xN (av SS.P 29) X λ_ c5=>xU (ah SS.P 29 (pA (X.next)) (.agg ⟨c7⟩) c5) c5 λ_ J=>au (((c6:Int)==0)) (lA 29 J (pA (j1.next+9)) λc3=>lA 29 J (pA (X.next)) λc2=>FW SS 25 [(.agg ⟨c3⟩),(.agg ⟨c2⟩)] J λc0 c1=>∃b9:LV,∃b8:Int,c0=(.tuple ⟨[(.agg ⟨b9⟩),(.int .i64 b8)]⟩)/\xN (av SS.P 29) c1 λ_ b7=>xU (ah SS.P 29 (pA (c1.next)) (.agg ⟨b9⟩) b7) b7 λ_ Z=>lA 29 Z (pA (V.next)) λb5=>lA 29 Z (pA (c1.next)) λb4=>FW SS 38 [(.agg ⟨b5⟩),(.int .i64 d4),(.agg ⟨b4⟩),(.int .i64 b8),(.slice P O S),(.slice R N T)] Z λb2 Y=>yB b2 λb1=>au (!b1) (Q (.bool false) Y) (lA 29 Y (pA (h.next)) λK=>FW SS 35 [(.agg ⟨K⟩),(.int .i64 1),(.int .i64 1)] Y λI A=>∃F:LV,∃D:Int,I=(.tuple ⟨[(.agg ⟨F⟩),(.int .i64 D)]⟩)/\xN (av SS.P 29) A λ_ G=>xU (ah SS.P 29 (pA (A.next)) (.agg ⟨F⟩) G) G λ_ E=>lA 29 E (pA (h.next)) λL=>FW SS 35 [(.agg ⟨L⟩),(.int .i64 0),(.int .i64 2)] E λM B=>∃C:LV,∃z:Int,M=(.tuple ⟨[(.agg ⟨C⟩),(.int .i64 z)]⟩)/\xN (av SS.P 29) B λ_ y=>xU (ah SS.P 29 (pA (B.next)) (.agg ⟨C⟩) y) y λ_ x=>lA 29 x (pA (h.next)) λw=>FW SS 35 [(.agg ⟨w⟩),(.int .i64 1),(.int .i64 3)] x λu v=>∃t:LV,∃s:Int,u=(.tuple ⟨[(.agg ⟨t⟩),(.int .i64 s)]⟩)/\xN (av SS.P 29) v λ_ r=>xU (ah SS.P 29 (pA (v.next)) (.agg ⟨t⟩) r) r λ_ q=>au (((D:Int)==0)) (au (((z:Int)==0)) (lA 29 q (pA (A.next)) λp=>lA 29 q (pA (B.next)) λo=>FW SS 31 [(.agg ⟨p⟩),(.agg ⟨o⟩)] q λm n=>∃l:LV,∃k:Int,m=(.tuple ⟨[(.agg ⟨l⟩),(.int .i64 k)]⟩)/\xN (av SS.P 29) n λ_ j=>xU (ah SS.P 29 (pA (n.next)) (.agg ⟨l⟩) j) j λ_ i=>lA 29 i (pA (n.next)) λh=>lA 29 i (pA (v.next)) λg=>FW SS 38 [(.agg ⟨h⟩),(.int .i64 k),(.agg ⟨g⟩),(.int .i64 s),(.slice P O S),(.slice R N T)] i λe f=>yB e λd=>au (!d) (Q (.bool false) f) (FW SS 12 [] f λb c=>yB b λa=>Q (.bool a) c)) (FW SS 12 [] q λb c=>yB b λa=>Q (.bool a) c)) (FW SS 12 [] q λb c=>yB b λa=>Q (.bool a) c))) (lA 29 J (pA (h.next)) λK=>FW SS 35 [(.agg ⟨K⟩),(.int .i64 1),(.int .i64 1)] J λI A=>∃F:LV,∃D:Int,I=(.tuple ⟨[(.agg ⟨F⟩),(.int .i64 D)]⟩)/\xN (av SS.P 29) A λ_ G=>xU (ah SS.P 29 (pA (A.next)) (.agg ⟨F⟩) G) G λ_ E=>lA 29 E (pA (h.next)) λL=>FW SS 35 [(.agg ⟨L⟩),(.int .i64 0),(.int .i64 2)] E λM B=>∃C:LV,∃z:Int,M=(.tuple ⟨[(.agg ⟨C⟩),(.int .i64 z)]⟩)/\xN (av SS.P 29) B λ_ y=>xU (ah SS.P 29 (pA (B.next)) (.agg ⟨C⟩) y) y λ_ x=>lA 29 x (pA (h.next)) λw=>FW SS 35 [(.agg ⟨w⟩),(.int .i64 1),(.int .i64 3)] x λu v=>∃t:LV,∃s:Int,u=(.tuple ⟨[(.agg ⟨t⟩),(.int .i64 s)]⟩)/\xN (av SS.P 29) v λ_ r=>xU (ah SS.P 29 (pA (v.next)) (.agg ⟨t⟩) r) r λ_ q=>au (((D:Int)==0)) (au (((z:Int)==0)) (lA 29 q (pA (A.next)) λp=>lA 29 q (pA (B.next)) λo=>FW SS 31 [(.agg ⟨p⟩),(.agg ⟨o⟩)] q λm n=>∃l:LV,∃k:Int,m=(.tuple ⟨[(.agg ⟨l⟩),(.int .i64 k)]⟩)/\xN (av SS.P 29) n λ_ j=>xU (ah SS.P 29 (pA (n.next)) (.agg ⟨l⟩) j) j λ_ i=>lA 29 i (pA (n.next)) λh=>lA 29 i (pA (v.next)) λg=>FW SS 38 [(.agg ⟨h⟩),(.int .i64 k),(.agg ⟨g⟩),(.int .i64 s),(.slice P O S),(.slice R N T)] i λe f=>yB e λd=>au (!d) (Q (.bool false) f) (FW SS 12 [] f λb c=>yB b λa=>Q (.bool a) c)) (FW SS 12 [] q λb c=>yB b λa=>Q (.bool a) c)) (FW SS 12 [] q λb c=>yB b λa=>Q (.bool a) c))) (lA 29 H (pA (h.next)) λK=>FW SS 35 [(.agg ⟨K⟩),(.int .i64 1),(.int .i64 1)] H λI A=>∃F:LV,∃D:Int,I=(.tuple ⟨[(.agg ⟨F⟩),(.int .i64 D)]⟩)/\xN (av SS.P 29) A λ_ G=>xU (ah SS.P 29 (pA (A.next)) (.agg ⟨F⟩) G) G λ_ E=>lA 29 E (pA (h.next)) λL=>FW SS 35 [(.agg ⟨L⟩),(.int .i64 0),(.int .i64 2)] E λM B=>∃C:LV,∃z:Int,M=(.tuple ⟨[(.agg ⟨C⟩),(.int .i64 z)]⟩)/\xN (av SS.P 29) B λ_ y=>xU (ah SS.P 29 (pA (B.next)) (.agg ⟨C⟩) y) y λ_ x=>lA 29 x (pA (h.next)) λw=>FW SS 35 [(.agg ⟨w⟩),(.int .i64 1),(.int .i64 3)] x λu v=>∃t:LV,∃s:Int,u=(.tuple ⟨[(.agg ⟨t⟩),(.int .i64 s)]⟩)/\xN (av SS.P 29) v λ_ r=>xU (ah SS.P 29 (pA (v.next)) (.agg ⟨t⟩) r) r λ_ q=>au (((D:Int)==0)) (au (((z:Int)==0)) (lA 29 q (pA (A.next)) λp=>lA 29 q (pA (B.next)) λo=>FW SS 31 [(.agg ⟨p⟩),(.agg ⟨o⟩)] q λm n=>∃l:LV,∃k:Int,m=(.tuple ⟨[(.agg ⟨l⟩),(.int .i64 k)]⟩)/\xN (av SS.P 29) n λ_ j=>xU (ah SS.P 29 (pA (n.next)) (.agg ⟨l⟩) j) j λ_ i=>lA 29 i (pA (n.next)) λh=>lA 29 i (pA (v.next)) λg=>FW SS 38 [(.agg ⟨h⟩),(.int .i64 k),(.agg ⟨g⟩),(.int .i64 s),(.slice P O S),(.slice R N T)] i λe f=>yB e λd=>au (!d) (Q (.bool false) f) (FW SS 12 [] f λb c=>yB b λa=>Q (.bool a) c)) (FW SS 12 [] q λb c=>yB b λa=>Q (.bool a) c)) (FW SS 12 [] q λb c=>yB b λa=>Q (.bool a) c))))))))))))))):FW SS 10 [(.agg ⟨mv⟩),(.agg ⟨x0⟩),(.agg ⟨x1⟩),(.slice P O S),(.slice R N T)] h Q:=du aai Tryz.func10 (ai hx)
variable{n:Nat}
section
section
variable {K:Type} {S:aW K} {dec:List UInt8->K} {A B C M N:bJ} {xs ys:List Int}
theorem AZ(b:vM S dec M.kind)(i:M.kind=N.kind)(n:db M=true)(k:db N=true)(f:fq xs=true)(g:fq ys=true)(h:iG S dec M xs ys=iG S dec N xs ys):Ft M N xs ys=true:=by
 have l:vM S dec N.kind:=i▸b;unfold Ft;rcases ZD b n f g with⟨w,e,m,o⟩|e
 ·rcases ZD l k f g with⟨j,a,d,c⟩|a
  ·rw[e,a];have:w=j:=b.inj m (by rw[i];exact d) (by rw[o,c,h]);subst this;simp
  ·rw[a];simp
 ·rw[e];simp
structure Lw(kind:Int)(M:bJ)(n s:Nat):Prop where
 v:K0 M
 k:M.kind=kind
 n:M.af.length<=n
 s:bV M.af<=s
theorem Lw.sm{kind:Int}{s:Nat}(l:Lw kind M n s)(a:n<=100)(b:s<=500):Small M:=l.v.small (by have:=l.n;omega) (by have:=l.s;omega)
theorem Lw.cp{kind:Int}{s:Nat}(l:Lw kind M n s)(a:n<=100)(b:s<=500):BY M:=sc (l.sm a b) l.v.valid
variable {kind:Int} {n1 s1 n2 s2:Nat}
theorem Lw.union(a:Lw kind A n1 s1)(b:Lw kind B n2 s2)(f:n1<=100)(h:n2<=100)(e:s1<=500)(j:s2<=500):Lw kind (gG A B) (1+n1+n2) (2+(s1+n1)+(s2+n2))/\GO A B=(gG A B,0):=by
 have c:=a.k.trans b.k.symm;have d:=a.n;have k:=b.n;have g:=a.s;have i:=b.s;obtain⟨v,n,s⟩:=abW a.v b.v c (by omega) (by omega) (by omega) (by omega);exact⟨⟨v,a.k,by omega,by omega⟩,if_pos (NH a.v.valid b.v.valid c)⟩
theorem Lw.concat(a:Lw kind A n1 s1)(b:Lw kind B n2 s2)(k:n1<=100)(m:n2<=100)(j:s1<=500)(p:s2<=500)(f:A.lead.length<=100)(g:B.lead.length<=100):∃c,cO A.kind A.lead B.lead=some c/\Lw kind (fp A B c) (n1+n2) ((s1+n1)+(s2+n2))/\AU A B c=(fp A B c,0):=by
 have d:=a.k.trans b.k.symm;have i:=a.n;have q:=b.n;have l:=a.s;have o:=b.s;obtain⟨c,h,e⟩:=YW a.v.lead (by rw[d];exact b.v.lead) f g;obtain⟨v,n,s⟩:=VC a.v b.v d e (by omega) (by omega) (by omega) (by omega);exact⟨c,h,⟨v,a.k,by omega,by omega⟩,if_pos (NH a.v.valid b.v.valid d)⟩
theorem Lw.ab0(e:vM S dec kind)(h:1<=kind/\kind<=3)(a:Lw kind A n1 s1)(b:Lw kind B n2 s2)(d:n1<=100)(f:n2<=100)(c:s1<=500)(g:s2<=500):iG S dec (gG A B)=λx y=>S.add (iG S dec A x y) (iG S dec B x y):=by
 funext x y;refine Ul (a.cp d c) (b.cp f g) ?_ x y;rw[a.k,Ai h];exact e.one
theorem Lw.Ze(h:vM S dec kind)(a:Lw kind A n1 s1)(b:Lw kind B n2 s2)(g:n1<=100)(i:n2<=100)(e:s1<=500)(j:s2<=500){c:List UInt8}(d:cO A.kind A.lead B.lead=some c):iG S dec (fp A B c)=rW S (iG S dec A) (iG S dec B):=by
 funext x y;refine PX (a.cp g e) (b.cp i j) ?_ x y;have f:aO kind A.lead=true:=by rw[<-a.k];exact pv a.v.lead
 have k:aO kind B.lead=true:=by rw[<-b.k];exact pv b.v.lead
 rw[a.k]at d;exact(h.times f k d).2
theorem tq(kind:Int):(ct kind).length<=100:=by
 unfold ct;split
 ·simp
 ·split<;>simp
end
end
variable{m:Nat}{k:Nat}{i:Nat}{j:Nat}{l:Nat}
section
section
variable {h g:ae} {A B C M N:bJ} {a b c:Option Addr} {nA nB nC cA cB cC:Nat} {xa ya:Option Addr} {xc yc:Nat} {xs ys:List Int}
theorem QG{s t:Option Addr}(r:Ok h g)(p:Small M)(q:Small N)(o:MB g n M s k j)(d:MB g m N t i l)(e:dz g (.slice xa xs.length xc) xs)(f:dz g (.slice ya ys.length yc) ys)(u:Ft M N xs ys=true){Z:ae->Prop}(w:∀b,Ok g b->Z b):
  FW SS 38 [.agg ⟨bM M s k j⟩,.int .i64 0,.agg ⟨bM N t i l⟩,.int .i64 0,.slice xa xs.length xc,.slice ya ys.length yc] g λv a=>yB v λc=>au (!c) (EQ h (.bool false) a) (Z a):=by
 refine(SC r.wf p q o.row d.row e f).mono ?_
 simp_all[aa]
theorem Vc(w:Wf h)(l:qJ h)(bA:Bnd A)(bB:Bnd B)(bC:Bnd C)(rA:dR h (.slice a nA cA) A.af)(rB:dR h (.slice b nB cB) B.af)(rC:dR h (.slice c nC cC) C.af)(f:dz h (.slice xa xs.length xc) xs)(g:dz h (.slice ya ys.length yc) ys)(hx:xs.length<=281474976710656)(hy:ys.length<=281474976710656):
  FW SS 10 [.agg ⟨bM A a nA cA⟩,.agg ⟨bM B b nB cB⟩,.agg ⟨bM C c nC cC⟩,.slice xa xs.length xc,.slice ya ys.length yc] h (EQ h):=by
 obtain⟨e,o1⟩:=fv w rA;obtain⟨k,o2⟩:=fv o1.wf (rB.ok o1);obtain⟨o,o3⟩:=fv o2.wf (rC.ok (o1.trans o2));refine Vb (bM A a nA cA) (bM B b nB cB) (bM C c nC cC) xa _ xc ya _ yc h _ ⟨_,iO A a nA cA,_,iO B b nB cB,_,iO C c nC cC,?_⟩;generalize h.push (Bm A a nA cA)=g2 at*;generalize g2.push (Bm B b nB cB)=g4 at*;generalize g4.push (Bm C c nC cC)=g6 at*;have e:=(e.ok o2).ok o3;have k:=k.ok o3;have x2:=(o1.trans o2).trans o3;generalize h.next=kA at*;generalize g2.next=kB at*;generalize g4.next=kC at*;refine⟨_,e.all,(FU x2.wf bA e.row).mono ?_⟩;rintro _ g7 ⟨rfl,o7⟩;have j2:=x2.trans o7;refine⟨_,rfl,aa (λ_=>wF l j2) (λqa=>⟨_,(k.ok o7).all,(FU o7.wf bB (k.ok o7).row).mono ?_⟩)⟩;rw[not_eq_false']at qa;obtain⟨O,M,H,q3⟩:=xD qa;rintro _ g8 ⟨rfl,o8⟩;have x1:=o7.trans o8;refine⟨_,rfl,aa (λ_=>wF l (x2.trans x1)) (λqb=>⟨_,(o.ok x1).all,(FU o8.wf bC (o.ok x1).row).mono ?_⟩)⟩;rw[not_eq_false']at qb;obtain⟨sB,j5,v0,q2⟩:=xD qb;rintro _ g9 ⟨rfl,o9⟩;have x9:=x1.trans o9;have r:=x2.trans x9;refine⟨_,rfl,aa (λ_=>wF l r) (λqc=>(SG (dz.ok f r) (dz.ok g r) hx hy).mono ?_)⟩;rw[not_eq_false']at qc;obtain⟨sC,j8,v1,q4⟩:=xD qc;rintro _ j1 ⟨rfl,e0⟩;obtain rfl:g9=j1:=e0.symm;have e:=e.ok x9;have k:=k.ok x9;have o:=o.ok x9;refine⟨_,rfl,aa (λ_=>wF l r) (λhw=>aa (λ_=>wF l r) (λ_=>⟨_,e.all,(yv r.wf O e.row).mono ?_⟩))⟩;rw[not_eq_false']at hw;unfold PZ at hw;rw[and_eq_true,and_eq_true]at hw;obtain⟨_,wx,wy⟩:=hw;rintro _ Y9 ⟨rfl,Q⟩;refine⟨_,rfl,aa (λ_=>wF l (r.trans Q)) (λvA=>⟨_,(k.ok Q).all,(yv Q.wf sB (k.ok Q).row).mono ?_⟩)⟩;rw[not_eq_false']at vA;rintro _ q7 ⟨rfl,u6⟩;have x4:=Q.trans u6;refine⟨_,rfl,aa (λ_=>wF l (r.trans x4)) (λvB=>⟨_,(o.ok x4).all,(yv u6.wf sC (o.ok x4).row).mono ?_⟩)⟩;rw[not_eq_false']at vB;rintro _ X2 ⟨rfl,w0⟩;have x5:=x4.trans w0;have d:=r.trans x5;have e:=e.ok x5;have k:=k.ok x5;have o:=o.ok x5;refine⟨_,rfl,aa (λ_=>wF l d) (λvC=>⟨_,dN _,_,e.l0,_,dN _,_,k.l0,aa (λ_=>wF l d) (λz7=>⟨_,dN _,_,e.l0,_,dN _,_,o.l0,aa (λ_=>wF l d) (λz6=>?_)⟩)⟩)⟩;rw[not_eq_false']at vC;have z7:A.kind=B.kind:=by simpa using z7
 have z6:A.kind=C.kind:=by simpa using z6
 have f:=dz.ok f d;have g:=dz.ok g d;have u:Lw A.kind A 8 40:=⟨KQ vA (by omega),rfl,M,H⟩
 have wB:Lw A.kind B 8 40:=⟨KQ vB (by omega),z7.symm,j5,v0⟩
 have wC:Lw A.kind C 8 40:=⟨KQ vC (by omega),z6.symm,j8,v1⟩
 have z:=u.v.kind;obtain⟨K,S,i,E⟩:=AF z;have d1:i (ct A.kind)=S.one:=by rw[Ai z];exact E.one
 obtain⟨wU,eU⟩:=u.union wB (by omega) (by omega) (by omega) (by omega);obtain⟨wV,eV⟩:=wB.union u (by omega) (by omega) (by omega) (by omega);have fU:=Lw.ab0 E z u wB (by omega) (by omega) (by omega) (by omega);have fV:=Lw.ab0 E z wB u (by omega) (by omega) (by omega) (by omega);refine⟨_,e.all,_,k.all,gV (tg d.wf (l.ok d) O sB e.row k.row) eU λu7 aU nU cU uU Y4 w3 I U=>⟨_,me,uU,w3,?_⟩⟩;generalize uU.app (u7.push lz)=X4 at*;generalize u7.next=kU at*;have d:=d.trans I;have e:=e.ok I;have k:=k.ok I;have o:=o.ok I;have f:=dz.ok f I;have g:=dz.ok g I;refine⟨_,k.all,_,e.all,gV (tg d.wf (l.ok d) sB O k.row e.row) eV λz9 aV nV cV uV Y1 j6 G mV=>⟨_,me,uV,j6,?_⟩⟩;generalize uV.app (z9.push lz)=Y6 at*;generalize z9.next=kV at*;have d:=d.trans G;have e:=e.ok G;have k:=k.ok G;have o:=o.ok G;have U:=U.ok G;have f:=dz.ok f G;have g:=dz.ok g G;refine⟨_,U.all,_,mV.all,QG d (wU.sm (by omega) (by omega)) (wV.sm (by omega) (by omega)) U mV f g (AZ (S:=S) (dec:=i) (by rw[wU.k];omega) (wU.k.trans wV.k.symm) wU.v.valid wV.v.valid wx wy (by rw[fU,fV];exact S.add_comm _ _)) λX9 F=>aa (λ_=>?_) (λq=>by cases q)⟩;have d:=d.trans F;have e:=e.ok F;have k:=k.ok F;have o:=o.ok F;have U:=U.ok F;have f:=dz.ok f F;have g:=dz.ok g F;obtain⟨cP,hP,wP,eP⟩:=wU.concat wC (by omega) (by omega) (by omega) (by omega) (tq _) (by omega);obtain⟨cQ,hQ,wQ,eQ⟩:=u.concat wC (by omega) (by omega) (by omega) (by omega) (by omega) (by omega);obtain⟨cR,hR,wR,eR⟩:=wB.concat wC (by omega) (by omega) (by omega) (by omega) (by omega) (by omega);have fP:=Lw.Ze E wU wC (by omega) (by omega) (by omega) (by omega) hP;have fQ:=Lw.Ze E u wC (by omega) (by omega) (by omega) (by omega) hQ;have fR:=Lw.Ze E wB wC (by omega) (by omega) (by omega) (by omega) hR;refine⟨_,U.all,_,o.all,gV (oT d.wf (l.ok d) (wU.sm (by omega) (by omega)) sC U.row o.row λ_=>hP) eP λy6 aP nP q6 uP X1 v6 N R=>⟨_,me,uP,v6,?_⟩⟩;generalize uP.app (y6.push lz)=Z7 at*;generalize y6.next=kP at*;have d:=d.trans N;have e:=e.ok N;have k:=k.ok N;have o:=o.ok N;have f:=dz.ok f N;have g:=dz.ok g N;refine⟨_,e.all,_,o.all,gV (oT d.wf (l.ok d) O sC e.row o.row λ_=>hQ) eQ λy1 aQ nQ Z9 uQ Y8 v2 D mQ=>⟨_,me,uQ,v2,?_⟩⟩;generalize uQ.app (y1.push lz)=X6 at*;generalize y1.next=kQ at*;have d:=d.trans D;have e:=e.ok D;have k:=k.ok D;have o:=o.ok D;have R:=R.ok D;have f:=dz.ok f D;have g:=dz.ok g D;refine⟨_,k.all,_,o.all,gV (oT d.wf (l.ok d) sB sC k.row o.row λ_=>hR) eR λz4 aR nR Y7 uR U1 v7 L mR=>⟨_,me,uR,v7,aa (λ_=>aa (λ_=>?_) (λq=>by cases q)) (λq=>by cases q)⟩⟩;generalize uR.app (z4.push lz)=Z2 at*;generalize z4.next=kR at*;have d:=d.trans L;have e:=e.ok L;have R:=R.ok L;have mQ:=mQ.ok L;have f:=dz.ok f L;have g:=dz.ok g L;obtain⟨wT,eT⟩:=wQ.union wR (by omega) (by omega) (by omega) (by omega);have fT:=Lw.ab0 E z wQ wR (by omega) (by omega) (by omega) (by omega);refine⟨_,mQ.all,_,mR.all,gV (tg d.wf (l.ok d) (wQ.sm (by omega) (by omega)) (wR.sm (by omega) (by omega)) mQ.row mR.row) eT λz5 aT nT cT uT U0 w7 X mT=>⟨_,me,uT,w7,?_⟩⟩;generalize uT.app (z5.push lz)=Z6 at*;generalize z5.next=kT at*;have d:=d.trans X;have e:=e.ok X;have R:=R.ok X;have f:=dz.ok f X;have g:=dz.ok g X;refine⟨_,R.all,_,mT.all,QG d (wP.sm (by omega) (by omega)) (wT.sm (by omega) (by omega)) R mT f g (AZ (S:=S) (dec:=i) (by rw[wP.k];omega) (wP.k.trans wT.k.symm) wP.v.valid wT.v.valid wx wy (by rw[fP,fT,fQ,fR,fU];grind[N6])) λp x7=>?_⟩;have d:=d.trans x7;have e:=e.ok x7;have f:=dz.ok f x7
 have g:=dz.ok g x7;have or:=(Ok.refl d.wf).room 12;have u4:=d.trans or;have eE:BO A.kind [] [] (ct A.kind)=(kj A.kind [] [] (ct A.kind),0):=if_pos (by rw[Bh z];rfl);have vE:K0 (kj A.kind [] [] (ct A.kind)):=acd z rfl rfl (Bh z);have wE:Lw A.kind (kj A.kind [] [] (ct A.kind)) 1 0:=⟨vE,rfl,by grind[C8],by grind[Jf]⟩
 refine⟨_,dN _,_,(e.ok or).l0,_,dN _,_,(e.ok or).l0,(Kl A.kind _).mono ?_⟩;rintro _ w2 ⟨rfl,e0⟩;obtain rfl:room p 12=w2:=e0.symm;refine⟨_,rfl,(AM u4.wf (l.ok u4) (uH _) (uH _) (by grind[tq])).mono ?_⟩;rintro _ z3 ⟨aE,nE,cE,ps,rfl,u5,om,j3⟩;rw[eE]at u5⊢;dsimp only at u5⊢;obtain⟨j4,u0⟩:=Q8 d.wf (n:=12) (j:=9) (by omega) j3 lz;have u9:=lR (t:=29) xQ (cs0:=[.int .i64 0,.int .i64 0,strOf [],.slice none 0 0]) rfl u0 (cs:=bM (kj A.kind [] [] (ct A.kind)) aE nE cE) rfl (tl ..);obtain⟨x8,w6⟩:=qk (cs:=bM (kj A.kind [] [] (ct A.kind)) aE nE cE) d.wf j4 u0 (Nat.le_add_right _ _);have v9:lO p ((eu.set (p.next+9) (.cells (bM (kj A.kind [] [] (ct A.kind)) aE nE cE) 29 0 true)).app (cd z3 p.next [(9,lz)])) (.slice aE nE cE) ps:=om.low or λj B hj hn=>by
  have hn:p.next+12<=j:=hn;show(((z3.set (p.next+9) lz)).set (p.next+9) _).get j=_;rw[ae.ay,if_neg (by omega),ae.ay,if_neg (by omega)];omega
 refine⟨_,_,rfl,_,me,_,u9,⟨(e.ok or).l0,KM _⟩,?_⟩;generalize (eu.set (p.next+9) (.cells (bM (kj A.kind [] [] (ct A.kind)) aE nE cE) 29 0 true)).app (cd z3 p.next [(9,lz)])=w5 at*;have mE:MB w5 (p.next+9) (kj A.kind [] [] (ct A.kind)) aE nE cE:=⟨w6,by have:=v9.st;grind⟩
 generalize p.next+9=kE at*;have d:=d.trans x8;have e:=e.ok x8;have f:=dz.ok f x8;have g:=dz.ok g x8;have eS:GG A=(fC A,0):=if_pos vA;have Z:Lw A.kind (fC A) 9 49:=by
  obtain⟨v,n,s⟩:=ad9 u.v (by omega) (by omega);exact⟨v,rfl,by omega,by omega⟩
 have fS:∀x y,iG S i (fC A) x y=S.add (Num.unit S x y) (rW S (iG S i A) (iG S i (fC A)) x y):=λx y=>KP (u.cp (by omega) (by omega)) z d1 x y;refine⟨_,e.all,gV (Fc d.wf (l.ok d) O e.row) eS λy4 aS nS cS uS Y3 q0 V P=>⟨_,me,uS,q0,aa (λ_=>?_) (λq=>by cases q)⟩⟩;generalize uS.app (y4.push lz)=Z3 at*;generalize y4.next=kS at*;have d:=d.trans V;have e:=e.ok V;have mE:=mE.ok V;have f:=dz.ok f V;have g:=dz.ok g V;obtain⟨cX,hX,wX,eX⟩:=u.concat Z (by omega) (by omega) (by omega) (by omega) (by omega) (tq _);have fX:=Lw.Ze E u Z (by omega) (by omega) (by omega) (by omega) hX;refine⟨_,e.all,_,P.all,gV (oT d.wf (l.ok d) O (Z.sm (by omega) (by omega)) e.row P.row λ_=>hX) eX λy0 aX nX Z8 uX X3 v5 J mX=>⟨_,me,uX,v5,aa (λ_=>?_) (λq=>by cases q)⟩⟩;generalize uX.app (y0.push lz)=Y0 at*;generalize y0.next=kX at*;have d:=d.trans J;have e:=e.ok J;have mE:=mE.ok J;have P:=P.ok J;have f:=dz.ok f J;have g:=dz.ok g J;obtain⟨wY,eY⟩:=wE.union wX (by omega) (by omega) (by omega) (by omega);have fY:=Lw.ab0 E z wE wX (by omega) (by omega) (by omega) (by omega);refine⟨_,mE.all,_,mX.all,gV (tg d.wf (l.ok d) (wE.sm (by omega) (by omega)) (wX.sm (by omega) (by omega)) mE.row mX.row) eY λy3 aY nY cY uY X8 j9 T mY=>⟨_,me,uY,j9,?_⟩⟩;generalize uY.app (y3.push lz)=Y2 at*;generalize y3.next=kY at*;have d:=d.trans T;have e:=e.ok T;have P:=P.ok T;have f:=dz.ok f T;have g:=dz.ok g T;have w9:iG S i (fC A) xs ys=iG S i (gG (kj A.kind [] [] (ct A.kind)) (fp A (fC A) cX)) xs ys:=by
  rw[fY,fX,fS];congr 1;rw[Zg z E rfl rfl,d1];rfl
 refine⟨_,P.all,_,mY.all,QG d (Z.sm (by omega) (by omega)) (wY.sm (by omega) (by omega)) P mY f g (AZ (S:=S) (dec:=i) (by rw[Z.k];omega) (Z.k.trans wY.k.symm) Z.v.valid wY.v.valid wx wy w9) λY5 x0=>?_⟩;have d:=d.trans x0;have e:=e.ok x0;have f:=dz.ok f x0;have g:=dz.ok g x0;have y5:∀(n:Int)(m:Nat),0<=n->n<=(m:Int)->m<=3->XV A n (m:Int)=(qn A n m,0)/\Lw A.kind (qn A n m) 28 148:=λn m h0 h1 h2=>by
  obtain⟨v,n',s⟩:=afL (n:=n) (m:=m) u.v (by omega) M H;have e1:m*A.af.length<=3*8:=Nat.mul_le_mul h2 M;have e2:m*(bV A.af+A.af.length)<=3*48:=Nat.mul_le_mul h2 (by omega);exact⟨if_pos ⟨vA,h0,h1,by omega⟩,v,rfl,by omega,by omega⟩
 have z0:∀(n:Int)(m:Nat),iG S i (qn A n m)=Ki S (iG S i A) n m:=λn m=>by
  funext x y;exact ab1 (u.cp (by omega) (by omega)) z d1 n m x y
 obtain⟨q1,z8⟩:=y5 1 1 (by omega) (by omega) (by omega);obtain⟨v8,y8⟩:=y5 0 2 (by omega) (by omega) (by omega);obtain⟨j0,y2⟩:=y5 1 3 (by omega) (by omega) (by omega);refine⟨_,e.all,gV (ud d.wf (l.ok d) O M H e.row) q1 λz1 a1 n1 c1 u1 q5 w1 x3 m1=>⟨_,me,u1,w1,?_⟩⟩;generalize u1.app (z1.push lz)=Z4 at*;generalize z1.next=k1 at*;have d:=d.trans x3;have e:=e.ok x3;have f:=dz.ok f x3;have g:=dz.ok g x3;refine⟨_,e.all,gV (ud d.wf (l.ok d) O M H e.row) v8 λy9 a2 n2 c2 u2 X0 v3 W m2=>⟨_,me,u2,v3,?_⟩⟩;generalize u2.app (y9.push lz)=Z0 at*;generalize y9.next=k2 at*;have d:=d.trans W;have e:=e.ok W;have m1:=m1.ok W;have f:=dz.ok f W;have g:=dz.ok g W;refine⟨_,e.all,gV (ud d.wf (l.ok d) O M H e.row) j0 λy7 a3 n3 c3 u3 Z5 v4 Y m3=>⟨_,me,u3,v4,aa (λ_=>aa (λ_=>?_) (λq=>by cases q)) (λq=>by cases q)⟩⟩;generalize u3.app (y7.push lz)=Z1 at*;generalize y7.next=k3 at*;have d:=d.trans Y;have m1:=m1.ok Y;have m2:=m2.ok Y;have f:=dz.ok f Y;have g:=dz.ok g Y;obtain⟨cZ,hZ,wZ,eZ⟩:=z8.concat y8 (by omega) (by omega) (by omega) (by omega) (tq _) (tq _);have fZ:=Lw.Ze E z8 y8 (by omega) (by omega) (by omega) (by omega) hZ;refine⟨_,m1.all,_,m2.all,gV (oT d.wf (l.ok d) (z8.sm (by omega) (by omega)) (y8.sm (by omega) (by omega)) m1.row m2.row λ_=>hZ) eZ λz2 aZ nZ X7 uZ q8 w4 x6 mZ=>⟨_,me,uZ,w4,?_⟩⟩;generalize uZ.app (z2.push lz)=X5 at*;generalize z2.next=kZ at*;have d:=d.trans x6;have m3:=m3.ok x6;have f:=dz.ok f x6;have g:=dz.ok g x6;have u8:iG S i (fp (qn A 1 1) (qn A 0 2) cZ) xs ys=iG S i (qn A 1 3) xs ys:=by
  have w8:Ki S (iG S i A) 1 1=iG S i A:=by
   funext x y;show S.add (if(1:Int)<=0 then Num.unit S x y else S.zero) (rW S (iG S i A) (Ki S (iG S i A) (1-1) 0) x y)=_;have p0:Ki S (iG S i A) (1-1) 0=Num.unit S:=by
    funext x y;show(if(1-1:Int)<=0 then Num.unit S x y else S.zero)=_;rw[if_pos (by omega)]
   rw[if_neg (by omega),S.zero_add,p0,K7]
  rw[fZ,z0,z0,z0,w8];show _=S.add (if(1:Int)<=0 then Num.unit S xs ys else S.zero) (rW S (iG S i A) (Ki S (iG S i A) (1-1) 2) xs ys);rw[if_neg (by omega),S.zero_add];rfl
 exact⟨_,mZ.all,_,m3.all,QG d (wZ.sm (by omega) (by omega)) (y2.sm (by omega) (by omega)) mZ m3 f g (AZ (S:=S) (dec:=i) (by rw[wZ.k];omega) (wZ.k.trans y2.k.symm) wZ.v.valid y2.v.valid wx wy u8) λq9 j7=>wF l (d.trans j7)⟩
end
end
end Go.Proofs.YtaaichlgdgjgjaaGreatDoor
end
section
namespace Go.Proofs.YtaaichlgdgjgjaaGreatDoor
open Go.Shelf Go.RowKit Go.Lib Go.Sort
def Nv:Go.Shelf.Ren:=⟨fun|5=>81|8=>101|7=>100|19=>134|20=>135|10=>125|11=>126|12=>127|13=>128|14=>129|15=>130|16=>131|17=>132|18=>133|30=>160|31=>161|32=>162|33=>163|34=>164|35=>165|40=>182|n=>n,fun|23=>22|25=>3|3=>3|32=>111|22=>22|0=>0|44=>148|46=>150|4=>4|36=>140|35=>139|41=>145|5=>5|9=>9|53=>166|57=>170|63=>185|64=>186|n=>n,fun|n=>n⟩
theorem abL:Go.Proofs.SlLaysM.n5 Tryz.prog Nv:={
 mixed:=by kernel_rfl,
 f5:=⟨Tryz.f81.name,by decide,Tryz.func81.trans (congrArg some (by kernel_rfl))⟩,
 f7:=⟨Tryz.f100.name,by decide,Tryz.func100.trans (congrArg some (by kernel_rfl))⟩,
 f8:=Tryz.func101.trans (congrArg some (by kernel_rfl)),
 f10:=⟨Tryz.f125.name,by decide,Tryz.func125.trans (congrArg some (by kernel_rfl))⟩,
 f11:=⟨Tryz.f126.name,by decide,Tryz.func126.trans (congrArg some (by kernel_rfl))⟩,
 f12:=⟨Tryz.f127.name,by decide,Tryz.func127.trans (congrArg some (by kernel_rfl))⟩,
 f13:=⟨Tryz.f128.name,by decide,Tryz.func128.trans (congrArg some (by kernel_rfl))⟩,
 f14:=⟨Tryz.f129.name,by decide,Tryz.func129.trans (congrArg some (by kernel_rfl))⟩,
 f15:=⟨Tryz.f130.name,by decide,Tryz.func130.trans (congrArg some (by kernel_rfl))⟩,
 f16:=⟨Tryz.f131.name,by decide,Tryz.func131.trans (congrArg some (by kernel_rfl))⟩,
 f17:=⟨Tryz.f132.name,by decide,Tryz.func132.trans (congrArg some (by kernel_rfl))⟩,
 f18:=⟨Tryz.f133.name,by decide,Tryz.func133.trans (congrArg some (by kernel_rfl))⟩,
 f19:=Tryz.func134.trans (congrArg some (by kernel_rfl)),
 f20:=Tryz.func135.trans (congrArg some (by kernel_rfl)),
 f30:=⟨Tryz.f160.name,by decide,Tryz.func160.trans (congrArg some (by kernel_rfl))⟩,
 f31:=Tryz.func161.trans (congrArg some (by kernel_rfl)),
 f32:=Tryz.func162.trans (congrArg some (by kernel_rfl)),
 f33:=⟨Tryz.f163.name,by decide,Tryz.func163.trans (congrArg some (by kernel_rfl))⟩,
 f34:=⟨Tryz.f164.name,by decide,Tryz.func164.trans (congrArg some (by kernel_rfl))⟩,
 f35:=⟨Tryz.f165.name,by decide,Tryz.func165.trans (congrArg some (by kernel_rfl))⟩,
 f40:=⟨Tryz.f182.name,by decide,Tryz.func182.trans (congrArg some (by kernel_rfl))⟩,
 t0:=Tryz.underlying0,
 a0:=Tryz.isAgg0,
 z0:=Tryz.sizeOf0,
 v0:=Tryz.zeroValue0,
 t3:=Tryz.underlying3,
 a3:=Tryz.isAgg3,
 z3:=Tryz.sizeOf3,
 v3:=Tryz.zeroValue3,
 t4:=Tryz.underlying4,
 a4:=Tryz.isAgg4,
 z4:=Tryz.sizeOf4,
 v4:=Tryz.zeroValue4,
 t5:=Tryz.underlying5,
 a5:=Tryz.isAgg5,
 z5:=Tryz.sizeOf5,
 v5:=Tryz.zeroValue5,
 t9:=Tryz.underlying9,
 a9:=Tryz.isAgg9,
 z9:=Tryz.sizeOf9,
 v9:=Tryz.zeroValue9,
 t22:=Tryz.underlying22,
 a22:=Tryz.isAgg22,
 z22:=Tryz.sizeOf22,
 v22:=Tryz.zeroValue22,
 t23:=Tryz.underlying22,
 a23:=Tryz.isAgg22,
 z23:=Tryz.sizeOf22,
 v23:=Tryz.zeroValue22,
 t25:=Tryz.underlying3,
 a25:=Tryz.isAgg3,
 z25:=Tryz.sizeOf3,
 v25:=Tryz.zeroValue3,
 t32:=Tryz.underlying111,
 a32:=Tryz.isAgg111,
 z32:=Tryz.sizeOf111,
 v32:=Tryz.zeroValue111,
 t35:=Tryz.underlying139,
 a35:=Tryz.isAgg139,
 z35:=Tryz.sizeOf139,
 v35:=Tryz.zeroValue139,
 t36:=Tryz.underlying140,
 a36:=Tryz.isAgg140,
 z36:=Tryz.sizeOf140,
 v36:=Tryz.zeroValue140,
 t41:=Tryz.underlying145,
 a41:=Tryz.isAgg145,
 z41:=Tryz.sizeOf145,
 v41:=Tryz.zeroValue145,
 t44:=Tryz.underlying148,
 a44:=Tryz.isAgg148,
 z44:=Tryz.sizeOf148,
 v44:=Tryz.zeroValue148,
 t46:=Tryz.underlying150,
 a46:=Tryz.isAgg150,
 z46:=Tryz.sizeOf150,
 v46:=Tryz.zeroValue150,
 t53:=Tryz.underlying166,
 a53:=Tryz.isAgg166,
 z53:=Tryz.sizeOf166,
 v53:=Tryz.zeroValue166,
 t57:=Tryz.underlying170,
 a57:=Tryz.isAgg170,
 z57:=Tryz.sizeOf170,
 v57:=Tryz.zeroValue170,
 t63:=Tryz.underlying185,
 a63:=Tryz.isAgg185,
 z63:=Tryz.sizeOf185,
 v63:=Tryz.zeroValue185,
 t64:=Tryz.underlying186,
 a64:=Tryz.isAgg186,
 z64:=Tryz.sizeOf186,
 v64:=Tryz.zeroValue186 }
end Go.Proofs.YtaaichlgdgjgjaaGreatDoor
end
section
namespace Go.Proofs.YtaaichlgdgjgjaaGreatDoor
open Go Go.Ab Go.RowKit
theorem F7:rh Tryz.prog ZL 222 tx:=MF (fn:=(Tryz.prog.funcs[222]?).getD default) (by kernel_rfl) (by kernel_rfl) (by kernel_rfl) (by kernel_rfl) (by kernel_rfl)
theorem DY:rh Tryz.prog ZL 226 rQ:=JP (fn:=(Tryz.prog.funcs[226]?).getD default) (by kernel_rfl) (by kernel_rfl) (by kernel_rfl) (by kernel_rfl) (by kernel_rfl)
theorem HO:rh Tryz.prog ZL 166 (Ap Tryz.prog ZL Tryz.f166 (PI Ib) (KC (KC Ib)) 5):=
 VK Rg.names Tryz.func166 rfl rfl rfl rfl rfl rfl rfl Tryz.func183 rfl JO (by kernel_rfl) (by kernel_rfl)
theorem PN:rh Tryz.prog ZL 81 Gw:=Yv abL (f5:=Tryz.f81) Tryz.func81 (by kernel_rfl)
theorem Xl:tU Tryz.prog ZL prS:=qC PN (qC F7 (qC DY (qC HO MQ)))
end Go.Proofs.YtaaichlgdgjgjaaGreatDoor
end
section
namespace Go.Proofs.YtaaichlgdgjgjaaGreatDoor
open Go Go.Ab Go.ChangeShapes Go.RowKit
variable{n:Nat}{J:ej}{s:List UInt8}{v:Value}{w:Value}{h:ae}
section
theorem co3:Tryz.prog.cellsOf 3=1:=by kernel_rfl
theorem co9:Tryz.prog.cellsOf 9=1:=by kernel_rfl
theorem agG:Tryz.prog.cellsOf 27=1:=by kernel_rfl
theorem agH:Tryz.prog.cellsOf 29=4:=by kernel_rfl
theorem agI:Tryz.prog.cellsOf 71=1:=by kernel_rfl
theorem afk:Tryz.prog.cellsOf 73=2:=by kernel_rfl
theorem afj:Tryz.prog.cellsOf 70=4:=by kernel_rfl
theorem afi:Tryz.prog.cellsOf 150=1:=by kernel_rfl
theorem agu:Tryz.prog.bytesOf 70=40:=by kernel_rfl
theorem JX{a c:Type}{p:a->c}{P:a->Prop}:∀{l:List c},(∀x∈l,∃q,x=p q/\P q)->∃k:List a,l=k.map p/\∀q∈k,P q
 |[],_=>⟨[],rfl,λ_ h=>by cases h⟩
 | x::l,h=>by
  obtain⟨q,rfl,e⟩:=h x (List.mem_cons_self ..);obtain⟨k,rfl,f⟩:=JX λx d=>h x (List.mem_cons_of_mem _ d);exact⟨q::k,rfl,λy b=>by
   rcases mem_cons.1 b with rfl|b
   ·exact e
   ·exact f y b⟩
def UR(W:World)(q:dW×Value):Prop:=Dp W q.2 4 (q.1.arcs.map gM)/\q.1.arcs.length<=281474976710656
section
variable {H:Type} {enc:TypeId×Value->H} {W:World} {held:Bool}
theorem UY{cs:List Value}{y:DataW H×List MemPlace}(h:DataW.trod enc Tryz.prog W 0 (λ_=>true) held n 70 cs=some y):∃q:jj,cs=gM q/\True:=by
 obtain⟨r,m,_,_,l,a,b⟩:=DataW.trod_struct Tryz.underlying70 h;rw[afj]at l;have a:r.length=4:=a
 match r,a,cs,l with
 |[k,v,g,p],_,[f,c,e,d],_=>
  obtain⟨i,z,_,_⟩:=DataW.trod_int (x:=k) Tryz.underlying3 (show DataW.trod enc Tryz.prog W 0 (λ_=>true) held m 3 (([f,c,e,d].drop 0).take (Tryz.prog.cellsOf 3))=some k from b 0 _ rfl);obtain⟨o,j,_,_⟩:=DataW.trod_int (x:=v) Tryz.underlying3 (show DataW.trod enc Tryz.prog W 0 (λ_=>true) held m 3 (([f,c,e,d].drop 1).take (Tryz.prog.cellsOf 3))=some v from b 1 _ rfl);obtain⟨s,w,_,_⟩:=DataW.trod_string (x:=g) Tryz.underlying9 (show DataW.trod enc Tryz.prog W 0 (λ_=>true) held m 9 (([f,c,e,d].drop 2).take (Tryz.prog.cellsOf 9))=some g from b 2 _ rfl);obtain⟨t,u,_,_⟩:=DataW.trod_int (x:=p) Tryz.underlying3 (show DataW.trod enc Tryz.prog W 0 (λ_=>true) held m 3 (([f,c,e,d].drop 3).take (Tryz.prog.cellsOf 3))=some p from b 3 _ rfl);simp only[co3,co9,List.drop,List.take,List.cons.injEq,and_true]at z j w u;subst z;subst j;subst w;subst u;exact⟨⟨i,o,s.data.toList,t⟩,rfl,trivial⟩
theorem PQ{cs:List Value}{y:DataW H×List MemPlace}(h:DataW.trod enc Tryz.prog W 0 (λ_=>true) held n 73 cs=some y)(d:(y.1.weights Tryz.prog 73).all (· <=reachBytes)=true):∃q:dW×Value,cs=yG q/\UR W q:=by
 obtain⟨k,o,m,rfl,c,i,f⟩:=trod_struct2 Tryz.underlying73 h;rw[afk]at c
 match cs,c with
 |[u,g],_=>
  obtain⟨s,e,_,_⟩:=DataW.trod_string Tryz.underlying9 i;simp only[DataW.weights,Tryz.underlying73,DataW.weightsEach,List.map,List.append_nil,List.all_append,and_eq_true]at d;obtain⟨v,t,b,r,j,a⟩:=CI (P:=Tryz.prog) (p:=λcs=>∃q:jj,cs=gM q/\True) Tryz.underlying71 afj (by decide) (λn cs y h _=>UY h) f d.2;simp only[co9,agI,List.drop,List.take,List.cons.injEq,and_true]at e b;subst e;subst b;obtain⟨l,rfl,_⟩:=JX j;refine⟨(⟨s.data.toList,l⟩,g),rfl,r,?_⟩;rw[agu,lM]at a;unfold reachBytes at a;show l.length<=_;omega
theorem JW{cs:List Value}{y:DataW H×List MemPlace}(h:DataW.trod enc Tryz.prog W 0 (λ_=>true) held n 29 cs=some y)(e:(y.1.weights Tryz.prog 29).all (· <=reachBytes)=true):
  ∃(k s:Int)(o:List UInt8)(v:Value)(j:List (dW×Value)),cs=[.int .i64 k,.int .i64 s,strOf o,v]/\Dp W v 2 (j.map yG)/\∀q∈j,UR W q:=by
 obtain⟨A,m,_,rfl,d,a,c⟩:=DataW.trod_struct Tryz.underlying29 h;rw[agH]at d;have a:A.length=4:=a
 match A,a,cs,d with
 |[w,C,t,z],_,[i,f,g,b],_=>
  obtain⟨k,E,_,_⟩:=DataW.trod_int (x:=w) Tryz.underlying3 (show DataW.trod enc Tryz.prog W 0 (λ_=>true) held m 3 (([i,f,g,b].drop 0).take (Tryz.prog.cellsOf 3))=some w from c 0 _ rfl);obtain⟨s,u,_,_⟩:=DataW.trod_int (x:=C) Tryz.underlying3 (show DataW.trod enc Tryz.prog W 0 (λ_=>true) held m 3 (([i,f,g,b].drop 1).take (Tryz.prog.cellsOf 3))=some C from c 1 _ rfl);obtain⟨o,D,_,_⟩:=DataW.trod_string (x:=t) Tryz.underlying9 (show DataW.trod enc Tryz.prog W 0 (λ_=>true) held m 9 (([i,f,g,b].drop 2).take (Tryz.prog.cellsOf 9))=some t from c 2 _ rfl);simp only[DataW.weights,Tryz.underlying29,DataW.weightsEach,List.map,List.append_nil,List.all_append,and_eq_true]at e;obtain⟨v,G,B,r,F,_⟩:=CI (P:=Tryz.prog) (x:=z) (p:=λcs=>∃q:dW×Value,cs=yG q/\UR W q) Tryz.underlying27 afk (by decide) (λn cs y h e=>PQ h e) (show DataW.trod enc Tryz.prog W 0 (λ_=>true) held m 27 (([i,f,g,b].drop 3).take (Tryz.prog.cellsOf 27))=some z from c 3 _ rfl) e.2.2.2;simp only[co3,co9,agG,List.drop,List.take,List.cons.injEq,and_true]at E u D B;subst E;subst u;subst D;subst B;obtain⟨l,rfl,d⟩:=JX F;exact⟨k,s,o.data.toList,b,l,rfl,r,d⟩
end
section
variable {W:World}
theorem RJ(q:jj):(gM q).all Go.Ab.bare=true:=rfl
theorem abO(h:aG J v w):bF J [strOf s,v] [strOf s,w]:= .cons (.string _) (.cons h (.nil J))
theorem Iv:∀(a:List (dW×Value)),(∀q∈a,UR W q)->∀{c:ej}{h:ae},yR c h W->
  ∃(d:ej)(m:ae)(b:List (dW×Value)),yR d m W/\c.le d/\Ok h m/\b.length=a.length/\b.map (·.1)=a.map (·.1)/\(∀p∈b,oH m p.2 p.1.arcs)/\
   ∀(k:Nat) r s,(b.map yG)[k]?=some r->(a.map yG)[k]?=some s->bF d r s
 |[],_,c,h,i=>⟨c,h,[],i,c.le_refl,Ok.refl i.wf,rfl,rfl,λ_ f=>absurd f (by simp),λk v q h=>absurd h (by simp)⟩
 | q::a,u,c,h,i=>by
  obtain⟨r,_⟩:=u q (List.mem_cons_self ..);obtain⟨K,g,v,A,G,z,C,I⟩:=i.row (e:=70) r (rs:=q.1.arcs.map gM) rfl (λk r s g j=>by
    rw[g]at j;obtain rfl:=oI j;rw[getElem?_map]at g;obtain⟨x,_,rfl⟩:=Option.map_eq_some_iff.1 g;exact bF.Bg (RJ x))
  obtain⟨t,j,b,B,y,w,D,f,F,H⟩:=Iv a (λq f=>u q (List.mem_cons_of_mem _ f)) A;refine⟨t,j,(q.1,v)::b,B,ej.le_trans G y,z.trans w,by simp[D],by simp[f],λp o=>?_,λk J E n l=>?_⟩
  ·rcases mem_cons.1 o with rfl|o
   ·exact oH.ok I w
   ·exact F p o
  ·cases k with
   |zero=>
    simp only[List.map_cons,List.getElem?_cons_zero,Option.some.injEq]at n l;subst n;subst l;exact abO (C.mono y)
   |succ k=>exact H k J E (by simpa using n) (by simpa using l)
theorem Mt(i:yR J h W){v:Value}{b:List (dW×Value)}(r:Dp W v 2 (b.map yG))(y:∀q∈b,UR W q)(F:∀a,v = .slice (some a) 0 0->a.spot=none/\∃cs t x,W.heap[a.block]?=some (.cells cs t x)):
  ∃c f d,yR c f W/\J.le c/\Ok h f/\aG c d v/\dR f d (b.map (·.1)):=by
 obtain⟨H,I,j,n,B,l,u,m,A,D⟩:=Iv b y i;obtain⟨g,z,d,o,G,k,w,s,C⟩:=n.Ya (e:=73) (rs:=j.map yG) r (by simp[u]) D F;exact⟨g,z,d,o,ej.le_trans B G,l.trans k,w,j,m,s,λp E=>oH.ok (A p E) k,C⟩
end
end
end Go.Proofs.YtaaichlgdgjgjaaGreatDoor
end
section
namespace Go.Proofs.YtaaichlgdgjgjaaGreatDoor
open Go Go.ChangeShapes Go.WideShapes Go.ChangeAt Go.RowKit
theorem Ym:ownKnob Tryz.prog.godebug=none:=by kernel_rfl
abbrev pO{H:Type}:List (String×DataW H):=[("math/bits.deBruijn32tab",Rows.laid_math_bits_deBruijn32tab),("math/bits.deBruijn64tab",Rows.laid_math_bits_deBruijn64tab),("internal/strconv.uint64pow10",Rows.laid_internal_strconv_uint64pow10)]
def adJ:DataW Unit->Value
 |.lit (.int k n)=> .int k n
 |_=>undef
def Fm:DataW Unit->Array Value
 |.agg l=>(l.map adJ).toArray
 |_=> #[]
def Wz(c:Array Value):Obj->Obj
 |.cells _ t a=> .cells c t a
 |o=>o
noncomputable def Is(a:Os):World:=
 { World.holding Tryz.prog a ⟨#[],#[],[]⟩with heap:=(((World.holding Tryz.prog a ⟨#[],#[],[]⟩).heap.modify 2 (Wz (Fm Rows.laid_math_bits_deBruijn32tab))).modify 3 (Wz (Fm Rows.laid_math_bits_deBruijn64tab))).modify 1 (Wz (Fm Rows.laid_internal_strconv_uint64pow10)) }
theorem Hz(b:Os)(a:Array Value):laidMetH Tryz.prog pO ((Is b).forCall (λ_ _=>0) ⟨#[],a,[]⟩).memory:=
 laidMetH_of_parts (laidMet_of_run' 24 (by kernel_rfl) (by kernel_rfl)) (by kernel_rfl)
end Go.Proofs.YtaaichlgdgjgjaaGreatDoor
end
section
namespace Go.Proofs.YtaaichlgdgjgjaaGreatDoor
open Go Go.Ab Go.ChangeShapes Go.WideShapes Go.RowKit
variable{v:Value}
section
theorem FV{P:Program}{w:World}:∀{l:List (String×DataW Unit)}{c:List MemPlace},DataW.LaidVars P w l c->∀n d,(n,d)∈l->
  ∃g t cs a p,P.globalNamed n=some g/\(P.globals[g]?).map (·.type)=some t/\w.var? P n=some cs/\DataW.trod (λ_=>()) P w 0 (λ_=>true) false a t cs.toList=some (d,p)
 |[],_,_,_,_,b=>by cases b
 | (s,o)::r,c,h,n,d,b=>by
  obtain⟨g,t,cs,a,p,q,i,j,f,k,m,_⟩:=h;rcases mem_cons.1 b with e|e
  ·cases e
   exact⟨g,t,cs,a,p,i,j,f,k⟩
  ·exact FV m n d e
theorem Xk:Rows.laid_internal_strconv_uint64pow10=(.agg ((List.range 20).map λi=>(.lit (.int .u64 ((10^i:Nat):Int)):DataW Unit)):DataW Unit):=by kernel_rfl
section
variable {W:World}
theorem abj(j:laidMetH Tryz.prog pO W):∃cs t a,W.heap[1]?=some (.cells cs t a)/\∀s,hW s NB 0 cs:=by
 rw[MakeChecks.laidMetH_plain _ _ _ (by kernel_rfl)]at j;obtain⟨F,l,_⟩:=j;obtain⟨g,t,cs,x,p,r,E,b,C⟩:=FV l "internal/strconv.uint64pow10" Rows.laid_internal_strconv_uint64pow10 (by simp[pO]);obtain rfl:=oI ((show Tryz.prog.globalNamed "internal/strconv.uint64pow10" = some 1 by kernel_rfl).symm.trans r);obtain rfl:=oI ((show(Tryz.prog.globals[1]?).map (·.type)=some 230 by kernel_rfl).symm.trans E);obtain⟨f,m,_,D,_,l,o⟩:=DataW.trod_array Tryz.underlying230 C;have w:f.map (·.1)=(List.range 20).map λi=>(.lit (.int .u64 ((10^i:Nat):Int)):DataW Unit):=by
  have:=(Prod.mk.inj D).1.symm.trans Xk;exact DataW.agg.inj this
 have d:∃t a,W.heap[1]?=some (.cells cs t a):=by
  simp only[World.var?,r,Option.bind_some]at b;split at b
  ·next c t a d=>obtain rfl:=oI b;exact⟨t,a,d⟩
  ·cases b
 obtain⟨t,a,d⟩:=d;refine⟨cs,t,a,d,λs k v h=>?_⟩;have e:k<20:=by
  have:=(List.getElem?_eq_some_iff.1 h).1;simpa[NB]using this
 have b:v=uv (10^k):=by
  simp[NB,List.getElem?_range e]at h;exact h.symm
 have n:=o k e;rw[afi,Nat.mul_one,gE (by omega)]at n;obtain⟨z,u,B,_⟩:=DataW.trod_int Tryz.underlying150 n;have q:(f.map (·.1))[k]?=some (.lit (.int .u64 ((10^k:Nat):Int))):=by rw[w];simp[List.getElem?_range e]
 rw[getElem?_map,gE (by omega:k<f.length),B]at q;have A:z=((10^k:Nat):Int):=by
  simpa using q
 subst A;have:cs.toList[k]?=some (.int .u64 ((10^k:Nat):Int)):=by
  have y:((cs.toList.drop k).take 1)[0]?=some (.int .u64 ((10^k:Nat):Int)):=by rw[u];rfl
  simpa using y
 refine⟨.int .u64 ((10^k:Nat):Int),by simpa using this,?_⟩;rw[b];exact .int _ _
theorem aaW(c:laidMetH Tryz.prog pO W):∃a h,yR a h W/\Gl ZL a/\qJ h:=by
 obtain⟨cs,t,f,b,e⟩:=abj c;refine⟨_,_,(agO 1 W).push b (e _),λg d=>?_,t,false,ae.gI ⟨1,.nil⟩ _⟩;have:g=1:=by simpa[ZL]using d
 subst this;exact⟨_,ej.cW _ _ _,rfl,rfl,rfl⟩
theorem YZ{base:Nat}{k s:Int}{o:List UInt8}(b:Value.okWide Tryz.prog W .any base 29 (.agg #[.int .i64 k,.int .i64 s,strOf o,v]))(a:Addr)(e:v = .slice (some a) 0 0):a.spot=none/\∃cs t f,W.heap[a.block]?=some (.cells cs t f):=by
 simp only[Value.okWide,Tryz.underlying29]at b;obtain⟨cs,h,_,r,i,_,p⟩:=b;obtain rfl:=Value.agg.inj h;obtain rfl:=oI ((show Tryz.prog.cellTypes Tryz.prog.depth 29=some [3,3,9,27] by kernel_rfl).symm.trans i);obtain⟨u,n,g⟩:=p 3 v rfl;obtain rfl:27=u:=oI n;subst e;simp only[Cell.okWide,Cell.ok,Tryz.underlying27]at g;obtain⟨_,_,_,m,q,j,d,_⟩:=g;refine⟨m,?_⟩;unfold World.shape? at d;split at d
 ·next c t f l=>exact⟨c,t,f,l⟩
 ·cases d
end
end
variable{n:Nat}{J:ej}{h:ae}
section
theorem bo3:Tryz.prog.bytesOf 3=8:=by kernel_rfl
section
variable {H:Type} {enc:TypeId×Value->H} {W:World} {held:Bool}
theorem Sv{cs:List Value}{y:DataW H×List MemPlace}(h:DataW.trod enc Tryz.prog W 0 (λ_=>true) held n 22 cs=some y)(c:(y.1.weights Tryz.prog 22).all (· <=reachBytes)=true):
  ∃(v:Value)(l:List Int),cs=[v]/\Dp W v 1 (l.map sV)/\l.length<=281474976710656:=by
 obtain⟨v,f,b,r,d,a⟩:=CI (P:=Tryz.prog) (p:=λcs=>∃z:Int,cs=sV z/\True) Tryz.underlying22 co3 (by decide) (λn cs y h _=>by
  obtain⟨z,e,_,_⟩:=DataW.trod_int Tryz.underlying3 h;exact⟨z,e,trivial⟩) h c
 obtain⟨l,rfl,_⟩:=JX d;refine⟨v,l,b,r,?_⟩;rw[bo3,lM]at a;unfold reachBytes at a;omega
theorem SJ(i:yR J h W){v:Value}{l:List Int}(r:Dp W v 1 (l.map sV))(B:∀a,v = .slice (some a) 0 0->a.spot=none/\∃cs t s,W.heap[a.block]?=some (.cells cs t s)):
  ∃g u a c,yR g u W/\J.le g/\Ok h u/\aG g (.slice a l.length c) v/\dz u (.slice a l.length c) l/\l.length<=bY c:=by
 obtain⟨D,⟨rfl,q⟩|⟨a,rfl,q⟩|⟨b,d,f,cs,t,s,rfl,y,E,p,F,C⟩⟩:=r
 ·obtain rfl:l=[]:=by simpa using q
  exact⟨J,h,none,0,i,J.le_refl,Ok.refl i.wf,.ot,.inl ⟨rfl,rfl⟩,Nat.zero_le _⟩
 ·obtain rfl:l=[]:=by simpa using q
  obtain⟨x,cs,t,s,p⟩:=B a rfl;obtain⟨b,d,w⟩:=a
  cases (show w=none from x)
  have o:=i.push (cs:=[]) p (λk v e=>by simp at e);exact⟨_,_,some ⟨h.next,0,none⟩,0,o,i.le _,(Ok.refl i.wf).push _,aG.slice (n:=0) (c:=0) (c':=0) (sl:=CN b cs.size t) (ej.cW _ _ _) rfl (λ_=>rfl) (λh=>by unfold dK at h;omega) (by unfold bY;split<;>omega) (.inr ⟨rfl,rfl⟩) (.inl rfl),.inr ⟨h.next,0,_,0,false,t,0,rfl,ae.gI _ _,.inr rfl,rfl⟩,Nat.zero_le _⟩
 ·rw[lM]at y⊢;have j:hW J (List.replicate d jd++l.map zV) 0 cs:=λk v e=>by
   rw[Nat.zero_add];rw[List.getElem?_append]at e;split at e
   ·next m=>
    rw[List.length_replicate]at m;rw[List.getElem?_replicate,if_pos m]at e;obtain rfl:=oI e;exact⟨_,Array.getElem?_eq_getElem (by omega),.jd _⟩
   ·next m=>
    rw[List.length_replicate]at m e;rw[getElem?_map]at e;obtain⟨z,A,rfl⟩:=Option.map_eq_some_iff.1 e;have:=C (k-d) (sV z) (by rw[getElem?_map,A];rfl) 0 (by omega);rw[show d+((k-d)*1+0)=k by omega]at this;exact⟨_,this,.int _ _⟩
  have o:=i.push p j;refine⟨_,_,some ⟨h.next,d,none⟩,f,o,i.le _,(Ok.refl i.wf).push _,aG.slice (sl:=CN b cs.size t) (i:=d) (n:=l.length) (c:=f) (i':=d) (c':=f) (ej.cW _ _ _) rfl (λ_=>rfl) (λh=>by omega) (by unfold bY;split<;>omega) (.inl (by simp)) (.inl rfl),.inr ⟨h.next,d,_,f,false,t,0,rfl,ae.gI _ _,.inr rfl,?_⟩,by unfold bY;split<;>omega⟩;rw[List.drop_append,List.length_replicate,List.drop_eq_nil_of_le (by simp),List.nil_append,Nat.sub_self,List.drop_zero,List.take_of_length_le (by simp)];rfl
end
end
variable{c:List Value}{g:ae}{f:FuncId}{F:Func}
section
section
variable {W:World}
def Ldx(W:World)(v:Value)(S:Value->ae->Prop):Prop:=(∀c h a,Ok h a->S c h->S c a)/\∀{d:ej}{h:ae},yR d h W->∃b a c,yR b a W/\d.le b/\Ok h a/\aG b c v/\S c a
def Lds(W:World)(e:List Value)(T:List Value->ae->Prop):Prop:=∀{d:ej}{h:ae},yR d h W->∃a c b,yR a c W/\d.le a/\Ok h c/\bF a b e/\T b c
theorem aa3:Lds W [] λa _=>a=[]:=λ{b h} i=>⟨b,h,[],i,b.le_refl,Ok.refl i.wf,.nil _,rfl⟩
theorem wM{S:Value->ae->Prop}{T:List Value->ae->Prop}(a:Ldx W v S)(b:Lds W c T):Lds W (v::c) λe h=>∃x r,e=x::r/\S x h/\T r h:=λ{w h} i=>by
 obtain⟨t,u,x,l,q,j,n,s⟩:=a.2 i;obtain⟨d,p,r,m,g,f,o,k⟩:=b l;exact⟨d,p,x::r,m,ej.le_trans q g,j.trans f,.cons (n.mono g) o,x,r,rfl,a.1 _ _ _ f s,k⟩
def aev(v:Value)(h:ae):Prop:=∃(M:bJ)(a:Option Addr)(c:Nat),v = .agg ⟨bM M a M.af.length c⟩/\Bnd M/\dR h (.slice a M.af.length c) M.af
def ZZ(v:Value)(h:ae):Prop:=∃(l:List Int)(a:Option Addr)(c:Nat),v = .slice a l.length c/\dz h (.slice a l.length c) l/\l.length<=281474976710656/\l.length<=bY c
theorem ZZ.ok(o:Ok h g)(s:ZZ v h):ZZ v g:=by
 obtain⟨l,a,c,d,e,b,f⟩:=s;exact⟨l,a,c,d,e.ok o,b,f⟩
theorem Nt{b:Nat}{t:TypeId}(h:W.shape? b=some (t,n)):∃cs t a,W.heap[b]?=some (.cells cs t a):=by
 unfold World.shape? at h;split at h
 ·next c t a d=>exact⟨c,t,a,d⟩
 ·cases h
variable {H:Type} {enc:TypeId×Value->H}
theorem JS{base:Nat}{A:DataW H}{p:List MemPlace}(f:Value.okWide Tryz.prog W .any base 29 v)(l:DataW.Trod enc Tryz.prog W 0 (λ_=>true) true 29 v A p)(G:(A.weights Tryz.prog 29).all (· <=reachBytes)=true):Ldx W v aev:=by
 refine⟨λN h O o s=>?_,λ{Q h} i=>?_⟩
 ·obtain⟨M,a,c,e,b,r⟩:=s;exact⟨M,a,c,e,b,r.ok o⟩
 obtain⟨cs,rfl,_⟩:=okWide_struct Tryz.underlying29 f;obtain⟨I,l⟩:=l;obtain⟨k,s,m,N,d,j,L,w⟩:=JW l G;have j:cs = #[.int .i64 k,.int .i64 s,strOf m,N]:=by
  rw[<-Array.toList_inj];exact j
 subst j;obtain⟨y,F,P,D,J,C,n,g⟩:=Mt i L w (YZ f);obtain⟨K,t,u,_,_⟩:=id g;obtain⟨a,c,rfl⟩:=u.ZN;have B:(K.map yG).length=(d.map (·.1)).length:=by rw[<-t,lM,lM]
 rw[B]at n g;refine⟨y,F,.agg ⟨bM ⟨k,s,m,d.map (·.1)⟩ a (d.map (·.1)).length c⟩,D,J,C,?_,⟨k,s,m,d.map (·.1)⟩,a,c,rfl,λx E=>?_,g⟩
 ·exact .agg rfl (lD.toList.2 (.cons (.int _ _) (.cons (.int _ _) (.cons (.string _) (.cons n (.nil _)))))).2
 ·obtain⟨q,z,rfl⟩:=List.mem_map.1 E;exact(w q z).2
theorem W0{base:Nat}(b:Value.okWide Tryz.prog W .any base 22 v)(a:Addr)(e:v = .slice (some a) 0 0):a.spot=none/\∃cs t g,W.heap[a.block]?=some (.cells cs t g):=by
 subst e;simp only[Value.okWide,Cell.okWide,Cell.ok,Tryz.underlying22]at b;obtain⟨_,_,_,f,h,d,c,_⟩:=b;exact⟨f,Nt c⟩
theorem WA{base:Nat}{m:DataW H}{p:List MemPlace}(b:Value.okWide Tryz.prog W .any base 22 v)(d:DataW.Trod enc Tryz.prog W 0 (λ_=>true) true 22 v m p)(y:(m.weights Tryz.prog 22).all (· <=reachBytes)=true):Ldx W v ZZ:=by
 refine⟨λv h C o s=>s.ok o,λ{D h} i=>?_⟩;obtain⟨f,j,k,rfl⟩:=okWide_slice Tryz.underlying22 b;obtain⟨z,d⟩:=d;obtain⟨v,l,e,r,u⟩:=Sv d y;have e:Value.slice f j k=v:=by
  have:[Value.slice f j k]=[v]:=e;simpa using this
 subst e;obtain⟨g,w,a,c,q,A,n,t,x,B⟩:=SJ i r (W0 b);exact⟨g,w,_,q,A,n,t,l,a,c,rfl,x,u,B⟩
theorem SH(m:Tryz.prog.funcs[f]?=some F)(b:F.body.isSome=true)(q:f<YB){a:Array Value}{T:List Value->ae->Prop}(l:Lds W a.toList T)(p:laidMetH Tryz.prog pO W)
  (i:∀{h:ae}{c:List Value}(_:qJ h)(_:Wf h),T c h->FW SS f c h (EQ h)):Calls Tryz.prog f a W λe d=>e = .returned (.bool true)/\Below W.heap.size W d:=by
 obtain⟨t,C,k,v,n⟩:=aaW p;obtain⟨y,z,c,g,s,j,o,u⟩:=l k;refine(LO Rg Xl (i (n.ok j) g.wf u) q m b g (v.mono s) (args':=a) o).mono ?_;rintro e d ⟨x,A,B,w,rfl,⟨rfl,_⟩,r,_,b⟩
 cases r
 exact⟨rfl,b⟩
end
end
end Go.Proofs.YtaaichlgdgjgjaaGreatDoor
end
section
namespace Go.Proofs.YtaaichlgdgjgjaaGreatDoor
open Go Go.Ab Go.ChangeShapes Go.WideShapes Go.ChangeAt Go.RowKit
theorem rE:laidOutB Tryz.prog=true:=by kernel_rfl
set_option maxRecDepth 100000 in
theorem Co(m:Os)(l:m.Started)(H:Type)(d:TypeId×Value->H):
  ReturnsInHanded {} Tryz.checked m 10 .any (λw c=>(Rows.buildLawsSpec.pre d Tryz.prog Tryz.f10 [] false w c/\laidMetH Tryz.prog pO w)/\sizedMet d Tryz.prog Tryz.f10 (OpenSpec.ofChange Rows.buildLawsSpec) false w c)
   (Rows.buildLawsSpec.post d Tryz.prog Tryz.f10 false true false false):=by
 refine returnsInHanded_of_change_and (C:=Tryz.checked) (X:=λw _=>laidMetH Tryz.prog pO w) (λ_ _ _ hh h=>h.of_heap hh) Ym l (by kernel_rfl) Tryz.func10
  (ChangeSpec.witness_at (enc:=d) (C:=Tryz.checked) (os:=m) (X:=λw _=>laidMetH Tryz.prog pO w) false (Is m) #[.agg #[.int .i64 0,.int .i64 0,.string ⟨#[]⟩,.slice none 0 0],.agg #[.int .i64 0,.int .i64 0,.string ⟨#[]⟩,.slice none 0 0],.agg #[.int .i64 0,.int .i64 0,.string ⟨#[]⟩,.slice none 0 0],.slice none 0 0,.slice none 0 0] 8 rfl (by kernel_rfl) (by kernel_rfl) (by kernel_rfl) (by kernel_rfl) (by kernel_rfl) (Hz m _)) ?_
 intro W base c S gs I o Y _ x8 hL _;have b:∀(j:Nat) t v,Tryz.f10.params[j]?=some t->c[j]?=some v->Value.okWide Tryz.prog W .any base t v:=o;have n:=Y;obtain⟨p,q,J,hV,rfl,z0,y1⟩:=Y;have hA:DataW.TrodAll d Tryz.prog W 0 (λ_=>true) true Tryz.f10.params.toList c.toList S p:=J;rw[Tryz.params10]at hA b;obtain⟨r,z9,F,z1,U,q0,f,rfl,rfl,L,x5⟩:=trodAll_cons hA;obtain⟨E,z5,D,y8,p1,q1,rfl,rfl,rfl,t1,x7⟩:=trodAll_cons x5;obtain⟨y,y2,u,z4,O,q2,rfl,rfl,rfl,K,Q⟩:=trodAll_cons x7;obtain⟨s,z6,B,z3,p3,q3,rfl,rfl,rfl,t3,V⟩:=trodAll_cons Q;obtain⟨z,y3,A,y4,p4,q4,rfl,rfl,rfl,M,G⟩:=trodAll_cons V;obtain⟨rfl,rfl,rfl⟩:=trodAll_nil G;have f:c = #[r,E,y,s,z]:=by
  rw[<-Array.toList_inj];exact f
 subst f;obtain⟨rfl,rfl⟩:=trodVars_none hV;rw[List.append_nil]at n;have h1:(DataW.weightsEach Tryz.prog (Tryz.f10.params.toList++Rows.buildLawsSpec.plain.varTypes Tryz.prog) ([F,D,u,B,A]++[])).all (· <=reachBytes)=true:=x8;rw[Tryz.params10]at h1;have h2:(F.weights Tryz.prog 29++(D.weights Tryz.prog 29++(u.weights Tryz.prog 29++(B.weights Tryz.prog 22++(A.weights Tryz.prog 22++(DataW.weightsEach Tryz.prog (Rows.buildLawsSpec.plain.varTypes Tryz.prog) [])))))).all (· <=reachBytes)=true:=h1;simp only[List.all_append,and_eq_true]at h2;obtain⟨w0,w1,w2,w3,w4,_⟩:=h2;have ld:Lds W #[r,E,y,s,z].toList _:=wM (JS (b 0 29 r rfl rfl) L w0) (wM (JS (b 1 29 E rfl rfl) t1 w1) (wM (JS (b 2 29 y rfl rfl) K w2) (wM (WA (b 3 22 s rfl rfl) t3 w3) (wM (WA (b 4 22 z rfl rfl) M w4) (aa3)))));refine(SH Tryz.func10 (by kernel_rfl) (by unfold YB;decide) ld hL λtb w T=>?_).mono λe W2 ⟨he,k⟩=>?_
 ·obtain⟨x0,P,rfl,s0,x1,N,rfl,s1,x2,Z,rfl,s2,x3,r3,rfl,s3,x4,r4,rfl,s4,rfl⟩:=T;obtain⟨M0,a0,c0,rfl,b0,P⟩:=s0;obtain⟨M1,a1,c1,rfl,b1,N⟩:=s1;obtain⟨M2,a2,c2,rfl,b2,Z⟩:=s2;obtain⟨u0,y9,y5,rfl,R,x9,y7⟩:=s3;obtain⟨z2,z7,z8,rfl,y0,x6,y6⟩:=s4;exact Vc w tb b0 b1 b2 P N Z R y0 x9 x6
 subst he;have g:∀x∈U++(p1++(O++(p3++(p4++([]))))),x.block<W.heap.size:=λx a=>n.lt x a;exact⟨_,rfl,Wy (ds:=[F,D,u,B,A]) (places:=U++(p1++(O++(p3++(p4++([])))))) rfl n k rfl rfl (λ_ _ _=>(trodAll_cons_mk (shut_bool Tryz.underlying4 _) trodAll_mk0))
  (ok_one (by kernel_rfl) rfl (okWide_bool_mk Tryz.underlying4 _)) (λsp i=>by
   rw[Tryz.params10];exact trodAll_cons_mk (WideElems.Trod_stays rE (by kernel_rfl) (dT (by kernel_rfl)) L (λx a=>k.same (g x (mem_append_left _ a))) (λx a=>i x (mem_append_left _ a))) (trodAll_cons_mk (WideElems.Trod_stays rE (by kernel_rfl) (dT (by kernel_rfl)) t1 (λx a=>k.same (g x (mem_append_right _ (mem_append_left _ a)))) (λx a=>i x (mem_append_right _ (mem_append_left _ a)))) (trodAll_cons_mk (WideElems.Trod_stays rE (by kernel_rfl) (dT (by kernel_rfl)) K (λx a=>k.same (g x (mem_append_right _ (mem_append_right _ (mem_append_left _ a))))) (λx a=>i x (mem_append_right _ (mem_append_right _ (mem_append_left _ a))))) (trodAll_cons_mk (WideElems.Trod_stays rE (by kernel_rfl) (dT (by kernel_rfl)) t3 (λx a=>k.same (g x (mem_append_right _ (mem_append_right _ (mem_append_right _ (mem_append_left _ a)))))) (λx a=>i x (mem_append_right _ (mem_append_right _ (mem_append_right _ (mem_append_left _ a)))))) (trodAll_cons_mk (WideElems.Trod_stays rE (by kernel_rfl) (dT (by kernel_rfl)) M (λx a=>k.same (g x (mem_append_right _ (mem_append_right _ (mem_append_right _ (mem_append_right _ (mem_append_left _ a))))))) (λx a=>i x (mem_append_right _ (mem_append_right _ (mem_append_right _ (mem_append_right _ (mem_append_left _ a))))))) (trodAll_mk0))))))⟩
theorem Fh:Rows.BuildLawsSaid:=
 OpenClaim.holds_of_wide 10 Tryz.f10 rfl rfl rfl rfl rfl rfl rfl ⟨rfl,rfl,rfl,rfl,rfl⟩ rfl rfl rfl rfl rfl (by kernel_rfl) Tryz.func10 (by kernel_rfl)
  (dT (by kernel_rfl)) (by unfold Func.isWrapper;first|(rw[if_pos (by decide +kernel)];kernel_rfl)|(rw[if_neg (by decide +kernel)];exact⟨rfl,rfl⟩))
  (λc a H b _=>Co c a H b)
theorem buildLaws_holds:Rows.BuildLawsCardSaid:=
 Claim7.holds_tied_plain_at .later [] [.data,.data,.data] true (true,"c6fdbccbd4f7b918257715cfda7cd04cead22867ce6bb9351446e2ee10eec580") true
  Fh (λ_ h=>by cases h) (by kernel_rfl) (λ_ h=>by cases h) buildLaws_row_tie rfl ⟨rfl,rfl⟩ (by kernel_rfl) rfl
  (λf d e b=>by
   obtain rfl:f=10:=oI ((show Tryz.prog.funcNamed "abugida/abugidalaw09.BuildLaws" = some 10 by kernel_rfl).symm.trans e) |>.symm
   obtain rfl:d=Tryz.f10:=(oI (Tryz.func10.symm.trans b)).symm;exact⟨by kernel_rfl,λj t c=>by
    rw[Tryz.params10]at c;have g:t∈[29,29,29,22,22]:=by simpa using Array.mem_of_getElem? c
    have a:([29,29,29,22,22].all λu=> !Tryz.prog.wantsStandIn u)=true:=by kernel_rfl
    exact(show Tryz.prog.wantsStandIn t=false by simpa using List.all_eq_true.1 a t g)⟩)
  (by kernel_rfl)
end Go.Proofs.YtaaichlgdgjgjaaGreatDoor
end
