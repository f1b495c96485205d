import Derived.Test.YthhdojhbohfmnaaGreatDoorGk52
import Derived.Test.YthhdojhbohfmnaaGreatDoorProg
set_option linter.unusedVariables false
set_option maxRecDepth 100000
namespace Go.Proofs.YthhdojhbohfmnaaGreatDoor
open Go.Gk
def tbl:List (Nat×TI):=[
(2,⟨(.int .i64),1,8,(.int .i64 0)⟩),
(3,⟨(.int .i64),1,8,(.int .i64 0)⟩),
(4,⟨TypeDesc.bool,1,1,(.bool false)⟩),
(5,⟨(.int .u8),1,1,(.int .u8 0)⟩),
(6,⟨(.int .u8),1,1,(.int .u8 0)⟩),
(7,⟨(TypeDesc.struct #[⟨ "x",2,0,false,"","runtime",0⟩,⟨ "y",3,1,false,"","runtime",8⟩,⟨ "signed",4,2,false,"","runtime",16⟩,⟨ "code",6,3,false,"","runtime",17⟩]),4,24,(Value.agg #[.int .i64 0,.int .i64 0,.bool false,.int .u8 0])⟩),
(8,⟨(TypeDesc.struct #[⟨ "x",2,0,false,"","runtime",0⟩,⟨ "y",3,1,false,"","runtime",8⟩,⟨ "signed",4,2,false,"","runtime",16⟩,⟨ "code",6,3,false,"","runtime",17⟩]),4,24,(Value.agg #[.int .i64 0,.int .i64 0,.bool false,.int .u8 0])⟩),
(9,⟨TypeDesc.string,1,16,(.string ⟨#[]⟩)⟩),
(10,⟨TypeDesc.string,1,16,(.string ⟨#[]⟩)⟩),
(11,⟨TypeDesc.string,1,16,(.string ⟨#[]⟩)⟩),
(12,⟨(.int .u64),1,8,(.int .u64 0)⟩),
(13,⟨(TypeDesc.struct #[⟨ "msg",9,0,false,"","runtime",0⟩,⟨ "addr",12,1,false,"","runtime",16⟩]),2,24,(Value.agg #[.string ⟨#[]⟩,.int .u64 0])⟩),
(14,⟨(TypeDesc.struct #[⟨ "msg",9,0,false,"","runtime",0⟩,⟨ "addr",12,1,false,"","runtime",16⟩]),2,24,(Value.agg #[.string ⟨#[]⟩,.int .u64 0])⟩),
(15,⟨(TypeDesc.pointer 401),1,8,(Value.pointer none)⟩),
(16,⟨(TypeDesc.pointer 404),1,8,(Value.pointer none)⟩),
(17,⟨(TypeDesc.pointer 411),1,8,(Value.pointer none)⟩),
(18,⟨(TypeDesc.struct #[⟨ "typ",17,0,false,"","internal/runtime/maps",0⟩]),1,8,(Value.agg #[Value.pointer none])⟩),
(19,⟨(TypeDesc.struct #[⟨ "typ",17,0,false,"","internal/runtime/maps",0⟩]),1,8,(Value.agg #[Value.pointer none])⟩),
(21,⟨(.int .i32),1,4,(.int .i32 0)⟩),
(22,⟨(TypeDesc.slice 3),1,24,(Value.slice none 0 0)⟩),
(23,⟨(TypeDesc.pointer 25),1,8,(Value.pointer none)⟩),
(24,⟨(TypeDesc.struct #[⟨ "L",22,0,false,"","",0⟩,⟨ "at",3,1,false,"","holloway/lanemake",24⟩]),2,32,(Value.agg #[Value.slice none 0 0,.int .i64 0])⟩),
(25,⟨(TypeDesc.struct #[⟨ "L",22,0,false,"","",0⟩,⟨ "at",3,1,false,"","holloway/lanemake",24⟩]),2,32,(Value.agg #[Value.slice none 0 0,.int .i64 0])⟩),
(27,⟨(TypeDesc.array 4 3),4,32,(Value.agg #[.int .i64 0,.int .i64 0,.int .i64 0,.int .i64 0])⟩),
(28,⟨(TypeDesc.struct #[⟨ "Kind",3,0,false,"","",0⟩,⟨ "Number",3,1,false,"","",8⟩,⟨ "Words",9,2,false,"","",16⟩,⟨ "Version",27,3,false,"","",32⟩]),7,64,(Value.agg #[.int .i64 0,.int .i64 0,.string ⟨#[]⟩,.int .i64 0,.int .i64 0,.int .i64 0,.int .i64 0])⟩),
(29,⟨(TypeDesc.struct #[⟨ "Kind",3,0,false,"","",0⟩,⟨ "Number",3,1,false,"","",8⟩,⟨ "Words",9,2,false,"","",16⟩,⟨ "Version",27,3,false,"","",32⟩]),7,64,(Value.agg #[.int .i64 0,.int .i64 0,.string ⟨#[]⟩,.int .i64 0,.int .i64 0,.int .i64 0,.int .i64 0])⟩),
(30,⟨(TypeDesc.slice 32),1,24,(Value.slice none 0 0)⟩),
(31,⟨(TypeDesc.struct #[⟨ "Kind",3,0,false,"","",0⟩,⟨ "Name",9,1,false,"","",8⟩,⟨ "Op",9,2,false,"","",24⟩,⟨ "Value",29,3,false,"","",40⟩,⟨ "Kids",30,10,false,"","",104⟩]),11,128,(Value.agg #[.int .i64 0,.string ⟨#[]⟩,.string ⟨#[]⟩,.int .i64 0,.int .i64 0,.string ⟨#[]⟩,.int .i64 0,.int .i64 0,.int .i64 0,.int .i64 0,Value.slice none 0 0])⟩),
(32,⟨(TypeDesc.struct #[⟨ "Kind",3,0,false,"","",0⟩,⟨ "Name",9,1,false,"","",8⟩,⟨ "Op",9,2,false,"","",24⟩,⟨ "Value",29,3,false,"","",40⟩,⟨ "Kids",30,10,false,"","",104⟩]),11,128,(Value.agg #[.int .i64 0,.string ⟨#[]⟩,.string ⟨#[]⟩,.int .i64 0,.int .i64 0,.string ⟨#[]⟩,.int .i64 0,.int .i64 0,.int .i64 0,.int .i64 0,Value.slice none 0 0])⟩),
(33,⟨(.int .i64),1,8,(.int .i64 0)⟩),
(40,⟨(TypeDesc.slice 83),1,24,(Value.slice none 0 0)⟩),
(45,⟨(TypeDesc.struct #[⟨ "From",3,0,false,"","",0⟩,⟨ "To",3,1,false,"","",8⟩]),2,16,(Value.agg #[.int .i64 0,.int .i64 0])⟩),
(46,⟨(TypeDesc.struct #[⟨ "From",3,0,false,"","",0⟩,⟨ "To",3,1,false,"","",8⟩]),2,16,(Value.agg #[.int .i64 0,.int .i64 0])⟩),
(63,⟨(TypeDesc.slice 159),1,24,(Value.slice none 0 0)⟩),
(65,⟨(TypeDesc.slice 9),1,24,(Value.slice none 0 0)⟩),
(67,⟨(TypeDesc.slice 78),1,24,(Value.slice none 0 0)⟩),
(77,⟨(TypeDesc.struct #[⟨ "Node",9,0,false,"","",0⟩,⟨ "Posture",9,1,false,"","",16⟩]),2,32,(Value.agg #[.string ⟨#[]⟩,.string ⟨#[]⟩])⟩),
(78,⟨(TypeDesc.struct #[⟨ "Node",9,0,false,"","",0⟩,⟨ "Posture",9,1,false,"","",16⟩]),2,32,(Value.agg #[.string ⟨#[]⟩,.string ⟨#[]⟩])⟩),
(82,⟨(TypeDesc.struct #[⟨ "At",3,0,false,"","",0⟩,⟨ "Node",9,1,false,"","",8⟩,⟨ "Name",9,2,false,"","",24⟩,⟨ "Value",29,3,false,"","",40⟩]),10,104,(Value.agg #[.int .i64 0,.string ⟨#[]⟩,.string ⟨#[]⟩,.int .i64 0,.int .i64 0,.string ⟨#[]⟩,.int .i64 0,.int .i64 0,.int .i64 0,.int .i64 0])⟩),
(83,⟨(TypeDesc.struct #[⟨ "At",3,0,false,"","",0⟩,⟨ "Node",9,1,false,"","",8⟩,⟨ "Name",9,2,false,"","",24⟩,⟨ "Value",29,3,false,"","",40⟩]),10,104,(Value.agg #[.int .i64 0,.string ⟨#[]⟩,.string ⟨#[]⟩,.int .i64 0,.int .i64 0,.string ⟨#[]⟩,.int .i64 0,.int .i64 0,.int .i64 0,.int .i64 0])⟩),
(96,⟨(TypeDesc.slice 178),1,24,(Value.slice none 0 0)⟩),
(98,⟨(TypeDesc.slice 180),1,24,(Value.slice none 0 0)⟩),
(100,⟨(TypeDesc.slice 112),1,24,(Value.slice none 0 0)⟩),
(103,⟨(TypeDesc.slice 117),1,24,(Value.slice none 0 0)⟩),
(111,⟨(TypeDesc.struct #[⟨ "Step",3,0,false,"","",0⟩,⟨ "Why",33,1,false,"","",8⟩]),2,16,(Value.agg #[.int .i64 0,.int .i64 0])⟩),
(112,⟨(TypeDesc.struct #[⟨ "Step",3,0,false,"","",0⟩,⟨ "Why",33,1,false,"","",8⟩]),2,16,(Value.agg #[.int .i64 0,.int .i64 0])⟩),
(116,⟨(TypeDesc.struct #[⟨ "Key",9,0,false,"","",0⟩,⟨ "By",9,1,false,"","",16⟩,⟨ "Node",9,2,false,"","",32⟩,⟨ "Posture",9,3,false,"","",48⟩,⟨ "State",3,4,false,"","",64⟩,⟨ "Yes",3,5,false,"","",72⟩,⟨ "From",3,6,false,"","",80⟩,⟨ "To",3,7,false,"","",88⟩]),8,96,(Value.agg #[.string ⟨#[]⟩,.string ⟨#[]⟩,.string ⟨#[]⟩,.string ⟨#[]⟩,.int .i64 0,.int .i64 0,.int .i64 0,.int .i64 0])⟩),
(117,⟨(TypeDesc.struct #[⟨ "Key",9,0,false,"","",0⟩,⟨ "By",9,1,false,"","",16⟩,⟨ "Node",9,2,false,"","",32⟩,⟨ "Posture",9,3,false,"","",48⟩,⟨ "State",3,4,false,"","",64⟩,⟨ "Yes",3,5,false,"","",72⟩,⟨ "From",3,6,false,"","",80⟩,⟨ "To",3,7,false,"","",88⟩]),8,96,(Value.agg #[.string ⟨#[]⟩,.string ⟨#[]⟩,.string ⟨#[]⟩,.string ⟨#[]⟩,.int .i64 0,.int .i64 0,.int .i64 0,.int .i64 0])⟩),
(127,⟨(TypeDesc.pointer 131),1,8,(Value.pointer none)⟩),
(128,⟨(TypeDesc.struct #[⟨ "kind",9,0,false,"","holloway/posture",0⟩,⟨ "at",3,1,false,"","holloway/posture",16⟩,⟨ "end",3,2,false,"","holloway/posture",24⟩,⟨ "name",9,3,false,"","holloway/posture",32⟩,⟨ "value",29,4,false,"","holloway/posture",48⟩]),11,112,(Value.agg #[.string ⟨#[]⟩,.int .i64 0,.int .i64 0,.string ⟨#[]⟩,.int .i64 0,.int .i64 0,.string ⟨#[]⟩,.int .i64 0,.int .i64 0,.int .i64 0,.int .i64 0])⟩),
(129,⟨(TypeDesc.struct #[⟨ "kind",9,0,false,"","holloway/posture",0⟩,⟨ "at",3,1,false,"","holloway/posture",16⟩,⟨ "end",3,2,false,"","holloway/posture",24⟩,⟨ "name",9,3,false,"","holloway/posture",32⟩,⟨ "value",29,4,false,"","holloway/posture",48⟩]),11,112,(Value.agg #[.string ⟨#[]⟩,.int .i64 0,.int .i64 0,.string ⟨#[]⟩,.int .i64 0,.int .i64 0,.string ⟨#[]⟩,.int .i64 0,.int .i64 0,.int .i64 0,.int .i64 0])⟩),
(130,⟨(TypeDesc.struct #[⟨ "s",9,0,false,"","holloway/posture",0⟩,⟨ "tok",129,1,false,"","holloway/posture",16⟩,⟨ "bad",4,12,false,"","holloway/posture",128⟩,⟨ "at",3,13,false,"","holloway/posture",136⟩]),14,144,(Value.agg #[.string ⟨#[]⟩,.string ⟨#[]⟩,.int .i64 0,.int .i64 0,.string ⟨#[]⟩,.int .i64 0,.int .i64 0,.string ⟨#[]⟩,.int .i64 0,.int .i64 0,.int .i64 0,.int .i64 0,.bool false,.int .i64 0])⟩),
(131,⟨(TypeDesc.struct #[⟨ "s",9,0,false,"","holloway/posture",0⟩,⟨ "tok",129,1,false,"","holloway/posture",16⟩,⟨ "bad",4,12,false,"","holloway/posture",128⟩,⟨ "at",3,13,false,"","holloway/posture",136⟩]),14,144,(Value.agg #[.string ⟨#[]⟩,.string ⟨#[]⟩,.int .i64 0,.int .i64 0,.string ⟨#[]⟩,.int .i64 0,.int .i64 0,.string ⟨#[]⟩,.int .i64 0,.int .i64 0,.int .i64 0,.int .i64 0,.bool false,.int .i64 0])⟩),
(132,⟨(TypeDesc.pointer 136),1,8,(Value.pointer none)⟩),
(133,⟨(TypeDesc.struct #[⟨ "kind",9,0,false,"","holloway/laneref1",0⟩,⟨ "at",3,1,false,"","holloway/laneref1",16⟩,⟨ "name",9,2,false,"","holloway/laneref1",24⟩,⟨ "value",29,3,false,"","holloway/laneref1",40⟩]),10,104,(Value.agg #[.string ⟨#[]⟩,.int .i64 0,.string ⟨#[]⟩,.int .i64 0,.int .i64 0,.string ⟨#[]⟩,.int .i64 0,.int .i64 0,.int .i64 0,.int .i64 0])⟩),
(134,⟨(TypeDesc.struct #[⟨ "kind",9,0,false,"","holloway/laneref1",0⟩,⟨ "at",3,1,false,"","holloway/laneref1",16⟩,⟨ "name",9,2,false,"","holloway/laneref1",24⟩,⟨ "value",29,3,false,"","holloway/laneref1",40⟩]),10,104,(Value.agg #[.string ⟨#[]⟩,.int .i64 0,.string ⟨#[]⟩,.int .i64 0,.int .i64 0,.string ⟨#[]⟩,.int .i64 0,.int .i64 0,.int .i64 0,.int .i64 0])⟩),
(135,⟨(TypeDesc.struct #[⟨ "s",9,0,false,"","holloway/laneref1",0⟩,⟨ "at",3,1,false,"","holloway/laneref1",16⟩,⟨ "next",134,2,false,"","holloway/laneref1",24⟩,⟨ "fault",3,12,false,"","holloway/laneref1",128⟩]),13,136,(Value.agg #[.string ⟨#[]⟩,.int .i64 0,.string ⟨#[]⟩,.int .i64 0,.string ⟨#[]⟩,.int .i64 0,.int .i64 0,.string ⟨#[]⟩,.int .i64 0,.int .i64 0,.int .i64 0,.int .i64 0,.int .i64 0])⟩),
(136,⟨(TypeDesc.struct #[⟨ "s",9,0,false,"","holloway/laneref1",0⟩,⟨ "at",3,1,false,"","holloway/laneref1",16⟩,⟨ "next",134,2,false,"","holloway/laneref1",24⟩,⟨ "fault",3,12,false,"","holloway/laneref1",128⟩]),13,136,(Value.agg #[.string ⟨#[]⟩,.int .i64 0,.string ⟨#[]⟩,.int .i64 0,.string ⟨#[]⟩,.int .i64 0,.int .i64 0,.string ⟨#[]⟩,.int .i64 0,.int .i64 0,.int .i64 0,.int .i64 0,.int .i64 0])⟩),
(139,⟨(TypeDesc.struct #[⟨ "is",3,0,false,"","holloway/posture",0⟩,⟨ "proof",22,1,false,"","holloway/posture",8⟩]),2,32,(Value.agg #[.int .i64 0,Value.slice none 0 0])⟩),
(140,⟨(TypeDesc.struct #[⟨ "is",3,0,false,"","holloway/posture",0⟩,⟨ "proof",22,1,false,"","holloway/posture",8⟩]),2,32,(Value.agg #[.int .i64 0,Value.slice none 0 0])⟩),
(145,⟨(TypeDesc.pointer 240),1,8,(Value.pointer none)⟩),
(149,⟨(TypeDesc.slice 33),1,24,(Value.slice none 0 0)⟩),
(158,⟨(TypeDesc.struct #[⟨ "Key",9,0,false,"","",0⟩,⟨ "Cond",32,1,false,"","",16⟩]),12,144,(Value.agg #[.string ⟨#[]⟩,.int .i64 0,.string ⟨#[]⟩,.string ⟨#[]⟩,.int .i64 0,.int .i64 0,.string ⟨#[]⟩,.int .i64 0,.int .i64 0,.int .i64 0,.int .i64 0,Value.slice none 0 0])⟩),
(159,⟨(TypeDesc.struct #[⟨ "Key",9,0,false,"","",0⟩,⟨ "Cond",32,1,false,"","",16⟩]),12,144,(Value.agg #[.string ⟨#[]⟩,.int .i64 0,.string ⟨#[]⟩,.string ⟨#[]⟩,.int .i64 0,.int .i64 0,.string ⟨#[]⟩,.int .i64 0,.int .i64 0,.int .i64 0,.int .i64 0,Value.slice none 0 0])⟩),
(160,⟨(TypeDesc.slice 65),1,24,(Value.slice none 0 0)⟩),
(166,⟨(TypeDesc.array 2 40),2,48,(Value.agg #[Value.slice none 0 0,Value.slice none 0 0])⟩),
(168,⟨(TypeDesc.array 2 29),14,128,(Value.agg #[.int .i64 0,.int .i64 0,.string ⟨#[]⟩,.int .i64 0,.int .i64 0,.int .i64 0,.int .i64 0,.int .i64 0,.int .i64 0,.string ⟨#[]⟩,.int .i64 0,.int .i64 0,.int .i64 0,.int .i64 0])⟩),
(177,⟨(TypeDesc.struct #[⟨ "Posture",9,0,false,"","",0⟩,⟨ "Approvers",65,1,false,"","",16⟩,⟨ "Need",3,2,false,"","",40⟩,⟨ "Wait",3,3,false,"","",48⟩,⟨ "Most",3,4,false,"","",56⟩]),5,64,(Value.agg #[.string ⟨#[]⟩,Value.slice none 0 0,.int .i64 0,.int .i64 0,.int .i64 0])⟩),
(178,⟨(TypeDesc.struct #[⟨ "Posture",9,0,false,"","",0⟩,⟨ "Approvers",65,1,false,"","",16⟩,⟨ "Need",3,2,false,"","",40⟩,⟨ "Wait",3,3,false,"","",48⟩,⟨ "Most",3,4,false,"","",56⟩]),5,64,(Value.agg #[.string ⟨#[]⟩,Value.slice none 0 0,.int .i64 0,.int .i64 0,.int .i64 0])⟩),
(179,⟨(TypeDesc.struct #[⟨ "At",3,0,false,"","",0⟩,⟨ "Key",9,1,false,"","",8⟩,⟨ "By",9,2,false,"","",24⟩,⟨ "Kind",3,3,false,"","",40⟩,⟨ "Node",9,4,false,"","",48⟩,⟨ "Posture",9,5,false,"","",64⟩,⟨ "Long",3,6,false,"","",80⟩]),7,88,(Value.agg #[.int .i64 0,.string ⟨#[]⟩,.string ⟨#[]⟩,.int .i64 0,.string ⟨#[]⟩,.string ⟨#[]⟩,.int .i64 0])⟩),
(180,⟨(TypeDesc.struct #[⟨ "At",3,0,false,"","",0⟩,⟨ "Key",9,1,false,"","",8⟩,⟨ "By",9,2,false,"","",24⟩,⟨ "Kind",3,3,false,"","",40⟩,⟨ "Node",9,4,false,"","",48⟩,⟨ "Posture",9,5,false,"","",64⟩,⟨ "Long",3,6,false,"","",80⟩]),7,88,(Value.agg #[.int .i64 0,.string ⟨#[]⟩,.string ⟨#[]⟩,.int .i64 0,.string ⟨#[]⟩,.string ⟨#[]⟩,.int .i64 0])⟩),
(181,⟨(TypeDesc.pointer 180),1,8,(Value.pointer none)⟩),
(183,⟨(TypeDesc.pointer 186),1,8,(Value.pointer none)⟩),
(184,⟨(TypeDesc.map 9 193),1,8,(Value.map none)⟩),
(185,⟨(TypeDesc.struct #[⟨ "access",96,0,false,"","holloway/posture",0⟩,⟨ "list",184,1,false,"","holloway/posture",24⟩]),2,32,(Value.agg #[Value.slice none 0 0,Value.map none])⟩),
(186,⟨(TypeDesc.struct #[⟨ "access",96,0,false,"","holloway/posture",0⟩,⟨ "list",184,1,false,"","holloway/posture",24⟩]),2,32,(Value.agg #[Value.slice none 0 0,Value.map none])⟩),
(193,⟨(TypeDesc.pointer 195),1,8,(Value.pointer none)⟩),
(194,⟨(TypeDesc.struct #[⟨ "asked",180,0,false,"","holloway/posture",0⟩,⟨ "access",178,7,false,"","holloway/posture",88⟩,⟨ "yes",65,12,false,"","holloway/posture",152⟩,⟨ "denied",4,13,false,"","holloway/posture",176⟩,⟨ "given",4,14,false,"","holloway/posture",177⟩,⟨ "from",3,15,false,"","holloway/posture",184⟩,⟨ "to",3,16,false,"","holloway/posture",192⟩]),17,200,(Value.agg #[.int .i64 0,.string ⟨#[]⟩,.string ⟨#[]⟩,.int .i64 0,.string ⟨#[]⟩,.string ⟨#[]⟩,.int .i64 0,.string ⟨#[]⟩,Value.slice none 0 0,.int .i64 0,.int .i64 0,.int .i64 0,Value.slice none 0 0,.bool false,.bool false,.int .i64 0,.int .i64 0])⟩),
(195,⟨(TypeDesc.struct #[⟨ "asked",180,0,false,"","holloway/posture",0⟩,⟨ "access",178,7,false,"","holloway/posture",88⟩,⟨ "yes",65,12,false,"","holloway/posture",152⟩,⟨ "denied",4,13,false,"","holloway/posture",176⟩,⟨ "given",4,14,false,"","holloway/posture",177⟩,⟨ "from",3,15,false,"","holloway/posture",184⟩,⟨ "to",3,16,false,"","holloway/posture",192⟩]),17,200,(Value.agg #[.int .i64 0,.string ⟨#[]⟩,.string ⟨#[]⟩,.int .i64 0,.string ⟨#[]⟩,.string ⟨#[]⟩,.int .i64 0,.string ⟨#[]⟩,Value.slice none 0 0,.int .i64 0,.int .i64 0,.int .i64 0,Value.slice none 0 0,.bool false,.bool false,.int .i64 0,.int .i64 0])⟩),
(199,⟨(TypeDesc.pointer 205),1,8,(Value.pointer none)⟩),
(203,⟨(TypeDesc.map 9 206),1,8,(Value.map none)⟩),
(204,⟨(TypeDesc.struct #[⟨ "r",96,0,false,"","holloway/laneref1",0⟩,⟨ "l",203,1,false,"","holloway/laneref1",24⟩]),2,32,(Value.agg #[Value.slice none 0 0,Value.map none])⟩),
(205,⟨(TypeDesc.struct #[⟨ "r",96,0,false,"","holloway/laneref1",0⟩,⟨ "l",203,1,false,"","holloway/laneref1",24⟩]),2,32,(Value.agg #[Value.slice none 0 0,Value.map none])⟩),
(206,⟨(TypeDesc.pointer 208),1,8,(Value.pointer none)⟩),
(207,⟨(TypeDesc.struct #[⟨ "Request",117,0,true,"","",0⟩,⟨ "asked",3,8,false,"","holloway/laneref1",96⟩,⟨ "long",3,9,false,"","holloway/laneref1",104⟩,⟨ "yes",65,10,false,"","holloway/laneref1",112⟩,⟨ "denied",4,11,false,"","holloway/laneref1",136⟩,⟨ "given",4,12,false,"","holloway/laneref1",137⟩]),13,144,(Value.agg #[.string ⟨#[]⟩,.string ⟨#[]⟩,.string ⟨#[]⟩,.string ⟨#[]⟩,.int .i64 0,.int .i64 0,.int .i64 0,.int .i64 0,.int .i64 0,.int .i64 0,Value.slice none 0 0,.bool false,.bool false])⟩),
(208,⟨(TypeDesc.struct #[⟨ "Request",117,0,true,"","",0⟩,⟨ "asked",3,8,false,"","holloway/laneref1",96⟩,⟨ "long",3,9,false,"","holloway/laneref1",104⟩,⟨ "yes",65,10,false,"","holloway/laneref1",112⟩,⟨ "denied",4,11,false,"","holloway/laneref1",136⟩,⟨ "given",4,12,false,"","holloway/laneref1",137⟩]),13,144,(Value.agg #[.string ⟨#[]⟩,.string ⟨#[]⟩,.string ⟨#[]⟩,.string ⟨#[]⟩,.int .i64 0,.int .i64 0,.int .i64 0,.int .i64 0,.int .i64 0,.int .i64 0,Value.slice none 0 0,.bool false,.bool false])⟩),
(216,⟨(TypeDesc.array 2 67),2,48,(Value.agg #[Value.slice none 0 0,Value.slice none 0 0])⟩),
(236,⟨(TypeDesc.pointer 3),1,8,(Value.pointer none)⟩),
(238,⟨(TypeDesc.map 242 40),1,8,(Value.map none)⟩),
(239,⟨(TypeDesc.struct #[⟨ "fresh",3,0,false,"","holloway/posture",0⟩,⟨ "list",238,1,false,"","holloway/posture",8⟩]),2,16,(Value.agg #[.int .i64 0,Value.map none])⟩),
(240,⟨(TypeDesc.struct #[⟨ "fresh",3,0,false,"","holloway/posture",0⟩,⟨ "list",238,1,false,"","holloway/posture",8⟩]),2,16,(Value.agg #[.int .i64 0,Value.map none])⟩),
(241,⟨(TypeDesc.struct #[⟨ "node",9,0,false,"","holloway/posture",0⟩,⟨ "name",9,1,false,"","holloway/posture",16⟩]),2,32,(Value.agg #[.string ⟨#[]⟩,.string ⟨#[]⟩])⟩),
(242,⟨(TypeDesc.struct #[⟨ "node",9,0,false,"","holloway/posture",0⟩,⟨ "name",9,1,false,"","holloway/posture",16⟩]),2,32,(Value.agg #[.string ⟨#[]⟩,.string ⟨#[]⟩])⟩),
(252,⟨(.int .u64),1,8,(.int .u64 0)⟩),
(258,⟨(TypeDesc.pointer 261),1,8,(Value.pointer none)⟩),
(259,⟨(TypeDesc.slice 5),1,24,(Value.slice none 0 0)⟩),
(261,⟨(TypeDesc.struct #[⟨ "addr",258,0,false,"","strings",0⟩,⟨ "buf",259,1,false,"","strings",8⟩]),2,32,(Value.agg #[Value.pointer none,Value.slice none 0 0])⟩),
(264,⟨(TypeDesc.interface #[("Error",26)]),1,16,(Value.nilIface)⟩),
(279,⟨(TypeDesc.map 9 4),1,8,(Value.map none)⟩),
(288,⟨(.int .i64),1,8,(.int .i64 0)⟩),
(296,⟨(.int .u32),1,4,(.int .u32 0)⟩),
(298,⟨(.int .u64),1,8,(.int .u64 0)⟩),
(311,⟨(TypeDesc.pointer 5),1,8,(Value.pointer none)⟩),
(312,⟨(TypeDesc.pointer 129),1,8,(Value.pointer none)⟩),
(319,⟨(TypeDesc.array 256 4),256,256,(Value.agg (([.bool false,.bool false,.bool false,.bool false,.bool false,.bool false,.bool false,.bool false,.bool false,.bool false,.bool false,.bool false,.bool false,.bool false,.bool false,.bool false,.bool false,.bool false,.bool false,.bool false,.bool false,.bool false,.bool false,.bool false,.bool false,.bool false,.bool false,.bool false,.bool false,.bool false,.bool false,.bool false,.bool false,.bool false,.bool false,.bool false,.bool false,.bool false,.bool false,.bool false,.bool false,.bool false,.bool false,.bool false,.bool false,.bool false,.bool false,.bool false,.bool false,.bool false,.bool false,.bool false,.bool false,.bool false,.bool false,.bool false,.bool false,.bool false,.bool false,.bool false,.bool false,.bool false,.bool false,.bool false].append [.bool false,.bool false,.bool false,.bool false,.bool false,.bool false,.bool false,.bool false,.bool false,.bool false,.bool false,.bool false,.bool false,.bool false,.bool false,.bool false,.bool false,.bool false,.bool false,.bool false,.bool false,.bool false,.bool false,.bool false,.bool false,.bool false,.bool false,.bool false,.bool false,.bool false,.bool false,.bool false,.bool false,.bool false,.bool false,.bool false,.bool false,.bool false,.bool false,.bool false,.bool false,.bool false,.bool false,.bool false,.bool false,.bool false,.bool false,.bool false,.bool false,.bool false,.bool false,.bool false,.bool false,.bool false,.bool false,.bool false,.bool false,.bool false,.bool false,.bool false,.bool false,.bool false,.bool false,.bool false]).append ([.bool false,.bool false,.bool false,.bool false,.bool false,.bool false,.bool false,.bool false,.bool false,.bool false,.bool false,.bool false,.bool false,.bool false,.bool false,.bool false,.bool false,.bool false,.bool false,.bool false,.bool false,.bool false,.bool false,.bool false,.bool false,.bool false,.bool false,.bool false,.bool false,.bool false,.bool false,.bool false,.bool false,.bool false,.bool false,.bool false,.bool false,.bool false,.bool false,.bool false,.bool false,.bool false,.bool false,.bool false,.bool false,.bool false,.bool false,.bool false,.bool false,.bool false,.bool false,.bool false,.bool false,.bool false,.bool false,.bool false,.bool false,.bool false,.bool false,.bool false,.bool false,.bool false,.bool false,.bool false].append [.bool false,.bool false,.bool false,.bool false,.bool false,.bool false,.bool false,.bool false,.bool false,.bool false,.bool false,.bool false,.bool false,.bool false,.bool false,.bool false,.bool false,.bool false,.bool false,.bool false,.bool false,.bool false,.bool false,.bool false,.bool false,.bool false,.bool false,.bool false,.bool false,.bool false,.bool false,.bool false,.bool false,.bool false,.bool false,.bool false,.bool false,.bool false,.bool false,.bool false,.bool false,.bool false,.bool false,.bool false,.bool false,.bool false,.bool false,.bool false,.bool false,.bool false,.bool false,.bool false,.bool false,.bool false,.bool false,.bool false,.bool false,.bool false,.bool false,.bool false,.bool false,.bool false,.bool false,.bool false])).toArray)⟩),
(323,⟨(TypeDesc.pointer 319),1,8,(Value.pointer none)⟩),
(356,⟨(.int .i64),1,8,(.int .i64 0)⟩),
(390,⟨(TypeDesc.struct #[⟨ "lo",5,0,false,"","unicode/utf8",0⟩,⟨ "hi",5,1,false,"","unicode/utf8",1⟩]),2,2,(Value.agg #[.int .u8 0,.int .u8 0])⟩),
(391,⟨(TypeDesc.array 16 390),32,32,(Value.agg #[.int .u8 0,.int .u8 0,.int .u8 0,.int .u8 0,.int .u8 0,.int .u8 0,.int .u8 0,.int .u8 0,.int .u8 0,.int .u8 0,.int .u8 0,.int .u8 0,.int .u8 0,.int .u8 0,.int .u8 0,.int .u8 0,.int .u8 0,.int .u8 0,.int .u8 0,.int .u8 0,.int .u8 0,.int .u8 0,.int .u8 0,.int .u8 0,.int .u8 0,.int .u8 0,.int .u8 0,.int .u8 0,.int .u8 0,.int .u8 0,.int .u8 0,.int .u8 0])⟩),
(401,⟨(TypeDesc.struct #[⟨ "_interface",17,0,false,"","runtime",0⟩,⟨ "concrete",17,1,false,"","runtime",8⟩,⟨ "asserted",17,2,false,"","runtime",16⟩,⟨ "missingMethod",9,3,false,"","runtime",24⟩]),4,40,(Value.agg #[Value.pointer none,Value.pointer none,Value.pointer none,.string ⟨#[]⟩])⟩),
(402,⟨(TypeDesc.array 0 16),0,0,(Value.agg #[])⟩),
(404,⟨(TypeDesc.struct #[⟨ "_",402,0,false,"","runtime",0⟩]),0,0,(Value.agg #[])⟩),
(405,⟨(.int .u8),1,1,(.int .u8 0)⟩),
(406,⟨(.int .u8),1,1,(.int .u8 0)⟩),
(408,⟨(.int .i32),1,4,(.int .i32 0)⟩),
(409,⟨(.int .i32),1,4,(.int .i32 0)⟩),
(411,⟨(TypeDesc.struct #[⟨ "Size_",12,0,false,"","",0⟩,⟨ "PtrBytes",12,1,false,"","",8⟩,⟨ "Hash",296,2,false,"","",16⟩,⟨ "TFlag",405,3,false,"","",20⟩,⟨ "Align_",5,4,false,"","",21⟩,⟨ "FieldAlign_",5,5,false,"","",22⟩,⟨ "Kind_",406,6,false,"","",23⟩,⟨ "Equal",407,7,false,"","",24⟩,⟨ "GCData",311,8,false,"","",32⟩,⟨ "Str",408,9,false,"","",40⟩,⟨ "PtrToThis",409,10,false,"","",44⟩]),11,48,(Value.agg #[.int .u64 0,.int .u64 0,.int .u32 0,.int .u8 0,.int .u8 0,.int .u8 0,.int .u8 0,Value.nilFunc,Value.pointer none,.int .i32 0,.int .i32 0])⟩)]
def Γ(t:TypeId):Option TI:=Gk.look tbl t
theorem hΓ:TOK Tryz.prog Γ:=Gk.Kes _ (
 And.intro ⟨Tryz.underlying2,Tryz.t2,Tryz.type2,rfl,rfl,rfl⟩ (
 And.intro ⟨Tryz.underlying3,Tryz.t3,Tryz.type3,rfl,rfl,rfl⟩ (
 And.intro ⟨Tryz.underlying4,Tryz.t4,Tryz.type4,rfl,rfl,rfl⟩ (
 And.intro ⟨Tryz.underlying5,Tryz.t5,Tryz.type5,rfl,rfl,rfl⟩ (
 And.intro ⟨Tryz.underlying6,Tryz.t6,Tryz.type6,rfl,rfl,rfl⟩ (
 And.intro ⟨Tryz.underlying7,Tryz.t7,Tryz.type7,rfl,rfl,rfl⟩ (
 And.intro ⟨Tryz.underlying8,Tryz.t8,Tryz.type8,rfl,rfl,rfl⟩ (
 And.intro ⟨Tryz.underlying9,Tryz.t9,Tryz.type9,rfl,rfl,rfl⟩ (
 And.intro ⟨Tryz.underlying10,Tryz.t10,Tryz.type10,rfl,rfl,rfl⟩ (
 And.intro ⟨Tryz.underlying11,Tryz.t11,Tryz.type11,rfl,rfl,rfl⟩ (
 And.intro ⟨Tryz.underlying12,Tryz.t12,Tryz.type12,rfl,rfl,rfl⟩ (
 And.intro ⟨Tryz.underlying13,Tryz.t13,Tryz.type13,rfl,rfl,rfl⟩ (
 And.intro ⟨Tryz.underlying14,Tryz.t14,Tryz.type14,rfl,rfl,rfl⟩ (
 And.intro ⟨Tryz.underlying15,Tryz.t15,Tryz.type15,rfl,rfl,rfl⟩ (
 And.intro ⟨Tryz.underlying16,Tryz.t16,Tryz.type16,rfl,rfl,rfl⟩ (
 And.intro ⟨Tryz.underlying17,Tryz.t17,Tryz.type17,rfl,rfl,rfl⟩ (
 And.intro ⟨Tryz.underlying18,Tryz.t18,Tryz.type18,rfl,rfl,rfl⟩ (
 And.intro ⟨Tryz.underlying19,Tryz.t19,Tryz.type19,rfl,rfl,rfl⟩ (
 And.intro ⟨Tryz.underlying21,Tryz.t21,Tryz.type21,rfl,rfl,rfl⟩ (
 And.intro ⟨Tryz.underlying22,Tryz.t22,Tryz.type22,rfl,rfl,rfl⟩ (
 And.intro ⟨Tryz.underlying23,Tryz.t23,Tryz.type23,rfl,rfl,rfl⟩ (
 And.intro ⟨Tryz.underlying24,Tryz.t24,Tryz.type24,rfl,rfl,rfl⟩ (
 And.intro ⟨Tryz.underlying25,Tryz.t25,Tryz.type25,rfl,rfl,rfl⟩ (
 And.intro ⟨Tryz.underlying27,Tryz.t27,Tryz.type27,rfl,rfl,rfl⟩ (
 And.intro ⟨Tryz.underlying28,Tryz.t28,Tryz.type28,rfl,rfl,rfl⟩ (
 And.intro ⟨Tryz.underlying29,Tryz.t29,Tryz.type29,rfl,rfl,rfl⟩ (
 And.intro ⟨Tryz.underlying30,Tryz.t30,Tryz.type30,rfl,rfl,rfl⟩ (
 And.intro ⟨Tryz.underlying31,Tryz.t31,Tryz.type31,rfl,rfl,rfl⟩ (
 And.intro ⟨Tryz.underlying32,Tryz.t32,Tryz.type32,rfl,rfl,rfl⟩ (
 And.intro ⟨Tryz.underlying33,Tryz.t33,Tryz.type33,rfl,rfl,rfl⟩ (
 And.intro ⟨Tryz.underlying40,Tryz.t40,Tryz.type40,rfl,rfl,rfl⟩ (
 And.intro ⟨Tryz.underlying45,Tryz.t45,Tryz.type45,rfl,rfl,rfl⟩ (
 And.intro ⟨Tryz.underlying46,Tryz.t46,Tryz.type46,rfl,rfl,rfl⟩ (
 And.intro ⟨Tryz.underlying63,Tryz.t63,Tryz.type63,rfl,rfl,rfl⟩ (
 And.intro ⟨Tryz.underlying65,Tryz.t65,Tryz.type65,rfl,rfl,rfl⟩ (
 And.intro ⟨Tryz.underlying67,Tryz.t67,Tryz.type67,rfl,rfl,rfl⟩ (
 And.intro ⟨Tryz.underlying77,Tryz.t77,Tryz.type77,rfl,rfl,rfl⟩ (
 And.intro ⟨Tryz.underlying78,Tryz.t78,Tryz.type78,rfl,rfl,rfl⟩ (
 And.intro ⟨Tryz.underlying82,Tryz.t82,Tryz.type82,rfl,rfl,rfl⟩ (
 And.intro ⟨Tryz.underlying83,Tryz.t83,Tryz.type83,rfl,rfl,rfl⟩ (
 And.intro ⟨Tryz.underlying96,Tryz.t96,Tryz.type96,rfl,rfl,rfl⟩ (
 And.intro ⟨Tryz.underlying98,Tryz.t98,Tryz.type98,rfl,rfl,rfl⟩ (
 And.intro ⟨Tryz.underlying100,Tryz.t100,Tryz.type100,rfl,rfl,rfl⟩ (
 And.intro ⟨Tryz.underlying103,Tryz.t103,Tryz.type103,rfl,rfl,rfl⟩ (
 And.intro ⟨Tryz.underlying111,Tryz.t111,Tryz.type111,rfl,rfl,rfl⟩ (
 And.intro ⟨Tryz.underlying112,Tryz.t112,Tryz.type112,rfl,rfl,rfl⟩ (
 And.intro ⟨Tryz.underlying116,Tryz.t116,Tryz.type116,rfl,rfl,rfl⟩ (
 And.intro ⟨Tryz.underlying117,Tryz.t117,Tryz.type117,rfl,rfl,rfl⟩ (
 And.intro ⟨Tryz.underlying127,Tryz.t127,Tryz.type127,rfl,rfl,rfl⟩ (
 And.intro ⟨Tryz.underlying128,Tryz.t128,Tryz.type128,rfl,rfl,rfl⟩ (
 And.intro ⟨Tryz.underlying129,Tryz.t129,Tryz.type129,rfl,rfl,rfl⟩ (
 And.intro ⟨Tryz.underlying130,Tryz.t130,Tryz.type130,rfl,rfl,rfl⟩ (
 And.intro ⟨Tryz.underlying131,Tryz.t131,Tryz.type131,rfl,rfl,rfl⟩ (
 And.intro ⟨Tryz.underlying132,Tryz.t132,Tryz.type132,rfl,rfl,rfl⟩ (
 And.intro ⟨Tryz.underlying133,Tryz.t133,Tryz.type133,rfl,rfl,rfl⟩ (
 And.intro ⟨Tryz.underlying134,Tryz.t134,Tryz.type134,rfl,rfl,rfl⟩ (
 And.intro ⟨Tryz.underlying135,Tryz.t135,Tryz.type135,rfl,rfl,rfl⟩ (
 And.intro ⟨Tryz.underlying136,Tryz.t136,Tryz.type136,rfl,rfl,rfl⟩ (
 And.intro ⟨Tryz.underlying139,Tryz.t139,Tryz.type139,rfl,rfl,rfl⟩ (
 And.intro ⟨Tryz.underlying140,Tryz.t140,Tryz.type140,rfl,rfl,rfl⟩ (
 And.intro ⟨Tryz.underlying145,Tryz.t145,Tryz.type145,rfl,rfl,rfl⟩ (
 And.intro ⟨Tryz.underlying149,Tryz.t149,Tryz.type149,rfl,rfl,rfl⟩ (
 And.intro ⟨Tryz.underlying158,Tryz.t158,Tryz.type158,rfl,rfl,rfl⟩ (
 And.intro ⟨Tryz.underlying159,Tryz.t159,Tryz.type159,rfl,rfl,rfl⟩ (
 And.intro ⟨Tryz.underlying160,Tryz.t160,Tryz.type160,rfl,rfl,rfl⟩ (
 And.intro ⟨Tryz.underlying166,Tryz.t166,Tryz.type166,rfl,rfl,rfl⟩ (
 And.intro ⟨Tryz.underlying168,Tryz.t168,Tryz.type168,rfl,rfl,rfl⟩ (
 And.intro ⟨Tryz.underlying177,Tryz.t177,Tryz.type177,rfl,rfl,rfl⟩ (
 And.intro ⟨Tryz.underlying178,Tryz.t178,Tryz.type178,rfl,rfl,rfl⟩ (
 And.intro ⟨Tryz.underlying179,Tryz.t179,Tryz.type179,rfl,rfl,rfl⟩ (
 And.intro ⟨Tryz.underlying180,Tryz.t180,Tryz.type180,rfl,rfl,rfl⟩ (
 And.intro ⟨Tryz.underlying181,Tryz.t181,Tryz.type181,rfl,rfl,rfl⟩ (
 And.intro ⟨Tryz.underlying183,Tryz.t183,Tryz.type183,rfl,rfl,rfl⟩ (
 And.intro ⟨Tryz.underlying184,Tryz.t184,Tryz.type184,rfl,rfl,rfl⟩ (
 And.intro ⟨Tryz.underlying185,Tryz.t185,Tryz.type185,rfl,rfl,rfl⟩ (
 And.intro ⟨Tryz.underlying186,Tryz.t186,Tryz.type186,rfl,rfl,rfl⟩ (
 And.intro ⟨Tryz.underlying193,Tryz.t193,Tryz.type193,rfl,rfl,rfl⟩ (
 And.intro ⟨Tryz.underlying194,Tryz.t194,Tryz.type194,rfl,rfl,rfl⟩ (
 And.intro ⟨Tryz.underlying195,Tryz.t195,Tryz.type195,rfl,rfl,rfl⟩ (
 And.intro ⟨Tryz.underlying199,Tryz.t199,Tryz.type199,rfl,rfl,rfl⟩ (
 And.intro ⟨Tryz.underlying203,Tryz.t203,Tryz.type203,rfl,rfl,rfl⟩ (
 And.intro ⟨Tryz.underlying204,Tryz.t204,Tryz.type204,rfl,rfl,rfl⟩ (
 And.intro ⟨Tryz.underlying205,Tryz.t205,Tryz.type205,rfl,rfl,rfl⟩ (
 And.intro ⟨Tryz.underlying206,Tryz.t206,Tryz.type206,rfl,rfl,rfl⟩ (
 And.intro ⟨Tryz.underlying207,Tryz.t207,Tryz.type207,rfl,rfl,rfl⟩ (
 And.intro ⟨Tryz.underlying208,Tryz.t208,Tryz.type208,rfl,rfl,rfl⟩ (
 And.intro ⟨Tryz.underlying216,Tryz.t216,Tryz.type216,rfl,rfl,rfl⟩ (
 And.intro ⟨Tryz.underlying236,Tryz.t236,Tryz.type236,rfl,rfl,rfl⟩ (
 And.intro ⟨Tryz.underlying238,Tryz.t238,Tryz.type238,rfl,rfl,rfl⟩ (
 And.intro ⟨Tryz.underlying239,Tryz.t239,Tryz.type239,rfl,rfl,rfl⟩ (
 And.intro ⟨Tryz.underlying240,Tryz.t240,Tryz.type240,rfl,rfl,rfl⟩ (
 And.intro ⟨Tryz.underlying241,Tryz.t241,Tryz.type241,rfl,rfl,rfl⟩ (
 And.intro ⟨Tryz.underlying242,Tryz.t242,Tryz.type242,rfl,rfl,rfl⟩ (
 And.intro ⟨Tryz.underlying252,Tryz.t252,Tryz.type252,rfl,rfl,rfl⟩ (
 And.intro ⟨Tryz.underlying258,Tryz.t258,Tryz.type258,rfl,rfl,rfl⟩ (
 And.intro ⟨Tryz.underlying259,Tryz.t259,Tryz.type259,rfl,rfl,rfl⟩ (
 And.intro ⟨Tryz.underlying261,Tryz.t261,Tryz.type261,rfl,rfl,rfl⟩ (
 And.intro ⟨Tryz.underlying264,Tryz.t264,Tryz.type264,rfl,rfl,rfl⟩ (
 And.intro ⟨Tryz.underlying279,Tryz.t279,Tryz.type279,rfl,rfl,rfl⟩ (
 And.intro ⟨Tryz.underlying288,Tryz.t288,Tryz.type288,rfl,rfl,rfl⟩ (
 And.intro ⟨Tryz.underlying296,Tryz.t296,Tryz.type296,rfl,rfl,rfl⟩ (
 And.intro ⟨Tryz.underlying298,Tryz.t298,Tryz.type298,rfl,rfl,rfl⟩ (
 And.intro ⟨Tryz.underlying311,Tryz.t311,Tryz.type311,rfl,rfl,rfl⟩ (
 And.intro ⟨Tryz.underlying312,Tryz.t312,Tryz.type312,rfl,rfl,rfl⟩ (
 And.intro ⟨Tryz.underlying319,Tryz.t319,Tryz.type319,rfl,rfl,rfl⟩ (
 And.intro ⟨Tryz.underlying323,Tryz.t323,Tryz.type323,rfl,rfl,rfl⟩ (
 And.intro ⟨Tryz.underlying356,Tryz.t356,Tryz.type356,rfl,rfl,rfl⟩ (
 And.intro ⟨Tryz.underlying390,Tryz.t390,Tryz.type390,rfl,rfl,rfl⟩ (
 And.intro ⟨Tryz.underlying391,Tryz.t391,Tryz.type391,rfl,rfl,rfl⟩ (
 And.intro ⟨Tryz.underlying401,Tryz.t401,Tryz.type401,rfl,rfl,rfl⟩ (
 And.intro ⟨Tryz.underlying402,Tryz.t402,Tryz.type402,rfl,rfl,rfl⟩ (
 And.intro ⟨Tryz.underlying404,Tryz.t404,Tryz.type404,rfl,rfl,rfl⟩ (
 And.intro ⟨Tryz.underlying405,Tryz.t405,Tryz.type405,rfl,rfl,rfl⟩ (
 And.intro ⟨Tryz.underlying406,Tryz.t406,Tryz.type406,rfl,rfl,rfl⟩ (
 And.intro ⟨Tryz.underlying408,Tryz.t408,Tryz.type408,rfl,rfl,rfl⟩ (
 And.intro ⟨Tryz.underlying409,Tryz.t409,Tryz.type409,rfl,rfl,rfl⟩ (
 And.intro ⟨Tryz.underlying411,Tryz.t411,Tryz.type411,rfl,rfl,rfl⟩ (trivial))))))))))))))))))))))))))))))))))))))))))))))))))))))))))))))))))))))))))))))))))))))))))))))))))))))))))))))))))))))
theorem hmix:Tryz.prog.follows .mixedOrders=true:=by kernel_rfl
end Go.Proofs.YthhdojhbohfmnaaGreatDoor
